/- Parts of the walk: Di, Wa. -/
import Derived.Test.YtdneakejlbabeaaGreatM00
import Derived.Deep.RegionLaw
import Derived.Test.YtdneakejlbabeaaGreatM04
import Derived.Deep.DeepCutAuto
import Derived.Deep.CutBlock
import Derived.Test.YtdneakejlbabeaaGreatM02
namespace Go.Proofs.YtdneakejlbabeaaGreat
open Go.RowKit
set_option linter.unusedVariables false
set_option linter.unusedSimpArgs false
section
attribute [local go_sem] run_max2' run_min2' run_max_ run_min_
theorem cell_in_alloc' {w : World} {p : Addr} {v : Value} (h : w.cell? p = some v) (o : Obj) : (w.alloc o).cell? p = some v :=
 (((Below.refl w.heap.size w).alloc (Nat.le_refl _) o).cell (World.block_lt_of_cell? w p h)).trans h
theorem Below.on' {B : Nat} {a w w' : World} (h : Below B a w) (hB : B ≤ a.heap.size) (k : Below w.heap.size w w') : Below B a w' := h.trans (k.mono (Nat.le_trans hB h.size))
def AddR (w : World) (B g k : Nat) (v : Value) (l : List O4) (o : O4) (e : Ending) (w' : World) : Prop :=
 (e = .returned (.bool false) ∧ Below w.heap.size w w') ∨
 (e = .returned (.bool true) ∧ ∃ v' wz, Frm (fun j => v.ownBlock = some j) w wz ∧ w' = wz.setCell ⟨g, k, none⟩ v' ∧ OG outc 4 140 B wz v' (l ++ [o]) ∧ (v'.ownBlock = v.ownBlock ∨ ∀ j, v'.ownBlock = some j → w.heap.size ≤ j))
set_option maxHeartbeats 8000000 in
set_option maxRecDepth 100000 in
theorem fadd_any (w : World) (B g k : Nat) (v : Value) (l : List O4) (o : O4) (hc : w.cell? ⟨g, k, none⟩ = some v) (hf : w.frozen? ⟨g, k, none⟩ = false) (hr : OG outc 4 140 B w v l) (hB : B ≤ w.heap.size) (hg : ∀ j, v.ownBlock = some j → j ≠ g) (hl : l.length ≤ 100000000) :
  Calls Tryz.prog 66 #[.pointer (some ⟨g, k, none⟩), .agg #[.int .i64 o.1, .int .i64 o.2.1, .int .i64 o.2.2.1, .int .i64 o.2.2.2]] w fun e w' => AddR w B g k v l o e w' := by
 obtain ⟨A, c, rfl⟩ := own_slice' hr
 have OW := hid hr
 have H : Hid (RG outc 4 w (.slice A l.length c) l) := hid (Sl.of_own hr (rowc_one outc_one l))
 have HI := hid Tryz.info140
 have hgs := World.block_lt_of_cell? w _ hc
 simp only at hgs
 have hgn : ¬ (Value.slice A l.length c).ownBlock = some g := fun e => hg g e rfl
 clear hr hg
 go_enter Tryz.func66, Tryz.ntmps66
 go_wp2_with fail
 obtain ⟨w0, hw0⟩ := lx (w.alloc (.cells #[.int .i64 o.1, .int .i64 o.2.1, .int .i64 o.2.2.1, .int .i64 o.2.2.2] 140))
 obtain ⟨gb, hgb⟩ := lx (w.heap.size)
 have BX : Hid (Blk w0 gb #[.int .i64 o.1, .int .i64 o.2.1, .int .i64 o.2.2.1, .int .i64 o.2.2.2] 140) := hid (by rw [hw0, hgb]; exact Blk.new _ _ _)
 have BW0 : Hid (Below w.heap.size w w0) := hid (by rw [hw0]; exact ba)
 rw [← hw0, ← hgb]
 clear hw0 hgb
 go_loopw [12] (fun i wr => ∃ j : Nat, j ≤ l.length ∧ i = .int .i64 j ∧ Below w0.heap.size w0 wr) (fun i _ => l.length - (intOf i).toNat)
 case atStart => exact ⟨0, Nat.zero_le _, rfl, Below.refl _ _⟩
 case round =>
  obtain ⟨j, hj, rfl, hb⟩ := hrel
  have BR := hid hb
  have BW := hid (bO BW0.out hb)
  have sr : w.heap.size ≤ wr.heap.size := BW.out.size
  have sr0 : w0.heap.size ≤ wr.heap.size := hb.size
  have bx := BX.out.below hb
  have x0 := bx.cell 0
  have x1 := bx.cell 1
  have x2 := bx.cell 2
  have x3 := bx.cell 3
  simp only [gA, gZ, gC] at x0 x1 x2 x3
  clear hb bx
  by_cases hjl : j < l.length
  ·have j0 : (0 : Int) ≤ (j : Int) := by omega
   have j1 : (j : Int) < (l.length : Int) := by omega
   have iwj : IntKind.i64.wrap ((j : Int) + 1) = (j : Int) + 1 := iX
   obtain ⟨ad, rfl, d0, d1, d2, d3⟩ := out_at (H.out.below BW.out) hjl
   obtain ⟨y, hy⟩ : ∃ y, l[j] = y := ⟨_, rfl⟩
   rw [hy] at d0 d1 d2 d3
   clear hy
   obtain ⟨q, hq⟩ : ∃ q, (y.1 == o.1) = q := ⟨_, rfl⟩
   have e0 := cell_in_alloc' x0 (.cells #[.int .i64 y.1, .int .i64 y.2.1, .int .i64 y.2.2.1, .int .i64 y.2.2.2] 140)
   cases q
   ·go_wp2_with fail
    go_roundw
    case rel => exact ⟨j + 1, hjl, by go_num, BR.out.alloc sr0 _⟩
    case measure => simp [intOf]; omega
   ·go_wp2_with fail
    go_ret
    exact .inl ⟨rfl, BW.out.alloc sr _⟩
  ·have j1 : ¬ (j : Int) < (l.length : Int) := by omega
   have cr := (BW.out.cell (p := ⟨g, k, none⟩) hgs).trans hc
   have fr := (BW.out.frozen (p := ⟨g, k, none⟩) hgs).trans hf
   have cra := fun o => cell_in_alloc' cr o
   have crb := fun o => cell_in_alloc' (show wr.drew.cell? ⟨g, k, none⟩ = _ from cr) o
   have OWr : Hid (OG outc 4 140 B wr.drew (.slice A l.length c) l) := hid (own_frm OW.out (Frm.drew (Frm.of_below (S := fun _ => False) BW.out)) (fun _ _ h => h))
   have hBr : B ≤ wr.drew.heap.size := Nat.le_trans hB sr
   go_wp2_with fail
   first | (go_region_law (first | (refine step_app (v := .slice A l.length c) B (by rfl) _ _ 124 140 _ 4 32 (by rfl) Tryz.underlying124 HI.out rfl (by omega) (by omega) (by rfl) (by rfl) ((OWr.out).alloc _) (Sl.boxk wr.drew 140 4 (outc o) _ (by simp) rfl (outc_one o)) (by omega) (Nat.le_trans hBr (by simp)) ?_; intro v9 w9 hown hfr hat; have F9 : Hid (Frm (fun j => (Value.slice A l.length c).ownBlock = some j) w w9) := hid ((((Frm.of_below BW.out).drew).alloc _).trans hfr); have O9 := hid (OG.push (l := l) (a := o) hown); have HA9 := hid hat; have c9 := (show w9.cell? ⟨g, k, none⟩ = w.cell? ⟨g, k, none⟩ from World.cell?_of_block (F9.out.block g hgs hgn)).trans hc; have f9 := (show w9.frozen? ⟨g, k, none⟩ = w.frozen? ⟨g, k, none⟩ from World.frozen?_of_block (F9.out.block g hgs hgn)).trans hf; obtain ⟨A9, c9_, rfl⟩ := own_slice' hown; clear hown hfr hat) | fail)) | fail
   all_goals
    go_wp2_with fail
    go_ret
    exact .inr ⟨rfl, _, w9, F9.out, rfl, O9.out, HA9.out.imp id (fun h j hj => by rw [h] at hj; injection hj with hj; rw [← hj]; exact Nat.le_trans sr (by simp))⟩
end

section
def NewB (w : World) (l : List Int) (e : Ending) (w' : World) : Prop := ∃ A c, e = .returned (.slice A l.length c) ∧ BV w' (fun j => w.heap.size ≤ j) (.slice A l.length c) l ∧ Below w.heap.size w w'
theorem sz27 : (Tryz.prog.info? 27).map (·.size) = some 9 := by kernel_rfl
theorem cutbv (w : World) (S : Nat → Prop) (v : Value) (l : List Int) (m : Nat) (h : BV w S v l) (hm : m ≤ 1000000) :
  Calls Tryz.prog 23 #[v, .int .i64 (m : Int)] w fun e w' => NewB w (l.take m) e w' := by
 refine (cutb_any w v l.length (u8s l) m h.sl hm).mono ?_
 rintro e w' ⟨v', rfl, ho, hb⟩
 have h2 : BO w.heap.size w' v' (l.take m) := ⟨by rw [List.length_take, show u8s (l.take m) = (u8s l).take m from by simp [u8s, List.map_take], Nat.min_comm]; exact ho, fun x hx => h.byt x (List.mem_of_mem_take hx)⟩
 have h3 := h2.bv
 obtain ⟨A, c, rfl, _⟩ := h3.len
 exact ⟨A, c, rfl, h3, hb⟩
theorem copybv (w : World) (S : Nat → Prop) (v : Value) (l : List Int) (h : BV w S v l) (hl : l.length ≤ 100000000) :
  Calls Tryz.prog 22 #[v] w fun e w' => NewB w l e w' := by
 refine (copyb_any w v l.length (u8s l) h.sl (by omega)).mono ?_
 rintro e w' ⟨v', rfl, ho, hb⟩
 have h3 := BO.bv ⟨ho, h.byt⟩
 obtain ⟨A, c, rfl, _⟩ := h3.len
 exact ⟨A, c, rfl, h3, hb⟩
/-- Some new packet. -/
def NewPk (w : World) (e : Ending) (w' : World) : Prop := ∃ (q : Pk) (A : Option Addr) (c : Nat), e = .returned (pagg q (.slice A q.data.length c)) ∧ BV w' (fun j => w.heap.size ≤ j) (.slice A q.data.length c) q.data ∧ q.data.length ≤ 100 ∧ Below w.heap.size w w'
set_option maxHeartbeats 8000000 in
set_option maxRecDepth 100000 in
theorem cutp_any (w : World) (S : Nat → Prop) (p : Pk) (v : Value) (h : BV w S v p.data) : Calls Tryz.prog 25 #[pagg p v] w fun e w' => NewPk w e w' := by
 obtain ⟨p0, p1, p2, p3, p4, p5, p6, p7, p8⟩ := p
 dsimp only at h
 obtain ⟨A, c, rfl, _⟩ := h.len
 obtain ⟨w0, hw0⟩ := lx ((w.alloc (.cells #[.int .i64 p0, .int .i64 p1, .int .i64 p2, .int .i64 p3, .int .i64 p4, .slice A p5.length c, .bool p6, .int .i64 p7, .int .i64 p8] 27)).alloc (.cells #[.int .i64 0, .int .i64 0, .int .i64 0, .int .i64 0, .int .i64 0, .slice none 0 0, .bool false, .int .i64 0, .int .i64 0] 27))
 obtain ⟨gs, hgs⟩ := lx (w.heap.size)
 obtain ⟨gr, hgr⟩ := lx (w.heap.size + 1)
 have BS : Hid (Blk w0 gs #[.int .i64 p0, .int .i64 p1, .int .i64 p2, .int .i64 p3, .int .i64 p4, .slice A p5.length c, .bool p6, .int .i64 p7, .int .i64 p8] 27) := hid (by rw [hw0, hgs]; exact (Blk.new _ _ _).alloc _)
 have BR : Hid (Blk w0 gr #[.int .i64 0, .int .i64 0, .int .i64 0, .int .i64 0, .int .i64 0, .slice none 0 0, .bool false, .int .i64 0, .int .i64 0] 27) := hid (by
  have := Blk.new (w.alloc (.cells #[.int .i64 p0, .int .i64 p1, .int .i64 p2, .int .i64 p3, .int .i64 p4, .slice A p5.length c, .bool p6, .int .i64 p7, .int .i64 p8] 27)) #[.int .i64 0, .int .i64 0, .int .i64 0, .int .i64 0, .int .i64 0, .slice none 0 0, .bool false, .int .i64 0, .int .i64 0] 27
  rw [hw0, hgr]
  simpa using this)
 have B0 : Hid (Below w.heap.size w w0) := hid (by rw [hw0]; exact (ba).alloc (by simp) _)
 have H := hid (h.below B0.out)
 have hge : w.heap.size ≤ gs ∧ w.heap.size ≤ gr ∧ gs ≠ gr ∧ gr ≠ gs := by omega
 have hw0' := hw0.symm
 have hgs' := hgs.symm
 have hgr' : gs + 1 = gr := by omega
 have k5 := BS.out.cell 5
 simp only [gA, gZ, gC] at k5
 clear hw0 hgs hgr h
 go_enter Tryz.func25, Tryz.ntmps25
 go_wp2_with fail
 clear hw0' hgs' hgr'
 refine (cutbv w0 S _ p5 80 H.out (by omega)).mono ?_
 rintro e w1 ⟨A1, c1, rfl, h1, hb1⟩
 obtain ⟨d1, hd1⟩ := lx (p5.take 80)
 rw [← hd1] at h1 ⊢
 have hdl : d1.length ≤ 100 := by rw [hd1, List.length_take]; omega
 clear hd1
 have H1 := hid h1
 have F1 := hid hb1
 have bs := BS.out.below hb1
 have br := BR.out.below hb1
 have a0 := bs.cell 0
 have r0 := br.cell 0
 have f0 := br.free 0
 have a1 := bs.cell 1
 have r1 := br.cell 1
 have f1 := br.free 1
 have a2 := bs.cell 2
 have r2 := br.cell 2
 have f2 := br.free 2
 have a3 := bs.cell 3
 have r3 := br.cell 3
 have f3 := br.free 3
 have a4 := bs.cell 4
 have r4 := br.cell 4
 have f4 := br.free 4
 have a5 := bs.cell 5
 have r5 := br.cell 5
 have f5 := br.free 5
 have a6 := bs.cell 6
 have r6 := br.cell 6
 have f6 := br.free 6
 have a7 := bs.cell 7
 have r7 := br.cell 7
 have f7 := br.free 7
 have a8 := bs.cell 8
 have r8 := br.cell 8
 have f8 := br.free 8
 have y5 := bs.free 5
 simp only [gA, gZ, gC] at r0 r1 r2 r3 r4 r5 r6 r7 r8 a0 a1 a2 a3 a4 a5 a6 a7 a8
 have BS1 := hid bs
 have BR1 := hid br
 obtain ⟨n1, n2, n3, n4⟩ := hge
 have s0 : w.heap.size ≤ w0.heap.size := B0.out.size
 clear h1 hb1 k5 bs br
 go_wp2_with fail
 have hfin := (((((((((((BR1.out.far (p := ⟨gs, 5, none⟩) (by exact n4) (.slice A1 d1.length c1)).set 0 (.int .i64 p0)).set 1 (.int .i64 p1)).set 2 (.int .i64 p2)).set 3 (.int .i64 p3)).set 4 (.int .i64 p4)).set 5 (.slice A1 d1.length c1)).set 6 (.bool p6)).set 7 (.int .i64 p7)).set 8 (.int .i64 p8)))
 have hfrm := ((((((((((Frm.refl (fun j => j = gs ∨ j = gr) w1).setCell (p := ⟨gs, 5, none⟩) (.inl (.inl rfl)) (.slice A1 d1.length c1)).setCell (p := ⟨gr, 0, none⟩) (.inl (.inr rfl)) (.int .i64 p0)).setCell (p := ⟨gr, 1, none⟩) (.inl (.inr rfl)) (.int .i64 p1)).setCell (p := ⟨gr, 2, none⟩) (.inl (.inr rfl)) (.int .i64 p2)).setCell (p := ⟨gr, 3, none⟩) (.inl (.inr rfl)) (.int .i64 p3)).setCell (p := ⟨gr, 4, none⟩) (.inl (.inr rfl)) (.int .i64 p4)).setCell (p := ⟨gr, 5, none⟩) (.inl (.inr rfl)) (.slice A1 d1.length c1)).setCell (p := ⟨gr, 6, none⟩) (.inl (.inr rfl)) (.bool p6)).setCell (p := ⟨gr, 7, none⟩) (.inl (.inr rfl)) (.int .i64 p7)).setCell (p := ⟨gr, 8, none⟩) (.inl (.inr rfl)) (.int .i64 p8)
 simp only [List.setIfInBounds_toArray, List.set_cons_zero, List.set_cons_succ] at hfin
 refine bodyPost_ret (results_cell_row rfl _ _ gr 27 _ (0, 0) _ rfl hfin Tryz.underlying27 rfl sz27) rfl ?_
 refine ⟨⟨p0, p1, p2, p3, p4, d1, p6, p7, p8⟩, A1, c1, rfl, ?_, hdl, ?_⟩
 ·exact (H1.out.frm hfrm (fun j hj e => by have := BS.out.lt; have := BR.out.lt; omega)).mono (fun j hj _ => by omega)
 ·exact Frm.below (bO B0.out F1.out) hfrm (by have := F1.out.size; omega) (fun i hi => by omega)
end
end Go.Proofs.YtdneakejlbabeaaGreat
