/- Parts of the walk: Wb. -/
import Derived.Test.YtdneakejlbabeaaGreatM00
import Derived.Deep.RegionHeld3
import Derived.Test.YtdneakejlbabeaaGreatM05
namespace Go.Proofs.YtdneakejlbabeaaGreat
open Go.RowKit
set_option linter.unusedVariables false
set_option linter.unusedSimpArgs false
section
abbrev pc (p : Pk) (A : Option Addr) (c : Nat) : Array Value := #[.int .i64 p.kind, .int .i64 p.path, .int .i64 p.number, .int .i64 p.of_, .int .i64 p.from_, .slice A p.data.length c, .bool p.fin, .int .i64 p.seen, .int .i64 p.limit]
/-- Nine cells of a block turned. -/
abbrev pset9 (W : World) (g : Nat) (q : Pk) (u : Value) : World :=
 ((((((((W.setCell ⟨g, 0, none⟩ (.int .i64 q.kind)).setCell ⟨g, 1, none⟩ (.int .i64 q.path)).setCell ⟨g, 2, none⟩ (.int .i64 q.number)).setCell ⟨g, 3, none⟩ (.int .i64 q.of_)).setCell ⟨g, 4, none⟩ (.int .i64 q.from_)).setCell ⟨g, 5, none⟩ u).setCell ⟨g, 6, none⟩ (.bool q.fin)).setCell ⟨g, 7, none⟩ (.int .i64 q.seen)).setCell ⟨g, 8, none⟩ (.int .i64 q.limit)
theorem pset9_blk {W : World} {g : Nat} {q0 : Pk} {A0 : Option Addr} {c0 : Nat} {xs : Array Value} (hx : xs.size = 9) (h : Blk W g xs 27) (q : Pk) (A : Option Addr) (c : Nat) : Blk (pset9 W g q (.slice A q.data.length c)) g (pc q A c) 27 := by
 obtain ⟨xs⟩ := xs
 have hx' : xs.length = 9 := hx
 match xs, hx' with
 | [a0, a1, a2, a3, a4, a5, a6, a7, a8], _ =>
  have := ((((((((h.set 0 (.int .i64 q.kind)).set 1 (.int .i64 q.path)).set 2 (.int .i64 q.number)).set 3 (.int .i64 q.of_)).set 4 (.int .i64 q.from_)).set 5 (.slice A q.data.length c)).set 6 (.bool q.fin)).set 7 (.int .i64 q.seen)).set 8 (.int .i64 q.limit)
  simpa using this
theorem pset9_frm (W : World) (g : Nat) (q : Pk) (u : Value) : Frm (· = g) W (pset9 W g q u) :=
 (((((((((Frm.refl (· = g) W).setg _).setg _).setg _).setg _).setg _).setg _).setg _).setg _).setg _
/-- Where a packet is being made: what came lies in gs, the packet in gp, the answer in gr. -/
structure PkI (w : World) (gs gr gp : Nat) (p : Pk) (A : Option Addr) (c : Nat) (q : Pk) (A1 : Option Addr) (c1 : Nat) (W : World) : Prop where
 bp : Blk W gp (pc q A1 c1) 27
 d : BV W (fun j => w.heap.size ≤ j ∧ j ≠ gp ∧ j ≠ gr) (.slice A1 q.data.length c1) q.data
 dl : q.data.length ≤ 100
 bs : Blk W gs (pc p A c) 27
 br : Blk W gr #[.int .i64 0, .int .i64 0, .int .i64 0, .int .i64 0, .int .i64 0, .slice none 0 0, .bool false, .int .i64 0, .int .i64 0] 27
 f : Below w.heap.size w W
 n : w.heap.size ≤ gp ∧ w.heap.size ≤ gr ∧ gs ≠ gp ∧ gr ≠ gp ∧ gs ≠ gr
theorem PkI.below {w W W' : World} {gs gr gp : Nat} {p q : Pk} {A A1 : Option Addr} {c c1 : Nat} (h : PkI w gs gr gp p A c q A1 c1 W) (k : Below W.heap.size W W') : PkI w gs gr gp p A c q A1 c1 W' :=
 ⟨h.bp.below k, h.d.below k, h.dl, h.bs.below k, h.br.below k, bO h.f k, h.n⟩
theorem PkI.start {w W : World} {gs gr gp : Nat} {p : Pk} {A : Option Addr} {c : Nat} (hb : Below w.heap.size w W) (hs : Blk W gs (pc p A c) 27) (hr : Blk W gr #[.int .i64 0, .int .i64 0, .int .i64 0, .int .i64 0, .int .i64 0, .slice none 0 0, .bool false, .int .i64 0, .int .i64 0] 27) (hp : Blk W gp #[.int .i64 0, .int .i64 0, .int .i64 0, .int .i64 0, .int .i64 0, .slice none 0 0, .bool false, .int .i64 0, .int .i64 0] 27) (hn : w.heap.size ≤ gp ∧ w.heap.size ≤ gr ∧ gs ≠ gp ∧ gr ≠ gp ∧ gs ≠ gr) (q : Pk) (hq : q.data = []) :
  PkI w gs gr gp p A c q none 0 (pset9 W gp q (.slice none 0 0)) := by
 have f := pset9_frm W gp q (.slice none 0 0)
 have hb2 := pset9_blk (q0 := q) (A0 := none) (c0 := 0) rfl hp q none 0
 have e : (Value.slice none q.data.length 0) = .slice none 0 0 := by rw [hq]; rfl
 rw [e] at hb2
 exact ⟨hb2, by rw [hq]; exact BV.nil _ _, by rw [hq]; simp, hs.frm f hn.2.2.1, hr.frm f hn.2.2.2.1, Frm.below hb f hb.size (fun j hj => by rw [hj]; exact hn.1), hn⟩
theorem PkI.put {w W : World} {gs gr gp : Nat} {p q : Pk} {A A1 : Option Addr} {c c1 : Nat} (h : PkI w gs gr gp p A c q A1 c1 W) (i : Nat) (u : Value) (q' : Pk) (hd : q'.data = q.data) (hs : (pc q A1 c1).setIfInBounds i u = pc q' A1 c1) : PkI w gs gr gp p A c q' A1 c1 (W.setCell ⟨gp, i, none⟩ u) := by
 have f := (Frm.refl (· = gp) W).setg (i := i) u
 refine ⟨hs ▸ h.bp.set i u, ?_, by rw [hd]; exact h.dl, h.bs.frm f h.n.2.2.1, h.br.frm f h.n.2.2.2.1, Frm.below h.f f h.f.size (fun j hj => by rw [hj]; exact h.n.1), h.n⟩
 rw [hd]
 exact h.d.frm f (fun j hj e => hj.2.1 e)
theorem PkI.putD {w W : World} {gs gr gp : Nat} {p q : Pk} {A A1 A2 : Option Addr} {c c1 c2 : Nat} (h : PkI w gs gr gp p A c q A1 c1 W) (d : List Int) (hd : BV W (fun j => w.heap.size ≤ j ∧ j ≠ gp ∧ j ≠ gr) (.slice A2 d.length c2) d) (hl : d.length ≤ 100) :
  PkI w gs gr gp p A c { q with data := d } A2 c2 (W.setCell ⟨gp, 5, none⟩ (.slice A2 d.length c2)) := by
 have f := (Frm.refl (· = gp) W).setg (i := 5) (.slice A2 d.length c2)
 refine ⟨?_, hd.frm f (fun j hj e => hj.2.1 e), hl, h.bs.frm f h.n.2.2.1, h.br.frm f h.n.2.2.2.1, Frm.below h.f f h.f.size (fun j hj => by rw [hj]; exact h.n.1), h.n⟩
 have := h.bp.set 5 (.slice A2 d.length c2)
 simpa using this
theorem PkI.fin {w W : World} {gs gr gp : Nat} {p q : Pk} {A A1 : Option Addr} {c c1 : Nat} (h : PkI w gs gr gp p A c q A1 c1 W) : NewPk w (.returned (pagg q (.slice A1 q.data.length c1))) (pset9 W gr q (.slice A1 q.data.length c1)) := by
 have f := pset9_frm W gr q (.slice A1 q.data.length c1)
 exact ⟨q, A1, c1, rfl, (h.d.frm f (fun j hj e => hj.2.2 e)).mono (fun j hj _ => hj.1), h.dl, Frm.below h.f f h.f.size (fun j hj => by rw [hj]; exact h.n.2.1)⟩
/-- What was cut from what came, as data of the packet. -/
theorem PkI.cut {w W W' : World} {gs gr gp : Nat} {p q : Pk} {A A1 A2 : Option Addr} {c c1 c2 : Nat} {d : List Int} (h : PkI w gs gr gp p A c q A1 c1 W) (hd : BV W' (fun j => W.heap.size ≤ j) (.slice A2 d.length c2) d) : BV W' (fun j => w.heap.size ≤ j ∧ j ≠ gp ∧ j ≠ gr) (.slice A2 d.length c2) d :=
 hd.mono (fun j hj _ => by have := h.bp.lt; have := h.br.lt; have := h.f.size; omega)
set_option maxHeartbeats 32000000 in
set_option maxRecDepth 100000 in
theorem packet_any (w : World) (S : Nat → Prop) (p : Pk) (v : Value) (n : Int) (h : BV w S v p.data) : Calls Tryz.prog 24 #[pagg p v, .int .i64 n] w fun e w' => NewPk w e w' := by
 obtain ⟨A, c, rfl, _⟩ := h.len
 obtain ⟨w0, hw0⟩ := lx ((w.alloc (.cells #[.int .i64 p.kind, .int .i64 p.path, .int .i64 p.number, .int .i64 p.of_, .int .i64 p.from_, .slice A p.data.length c, .bool p.fin, .int .i64 p.seen, .int .i64 p.limit] 27)).alloc (.cells #[.int .i64 0, .int .i64 0, .int .i64 0, .int .i64 0, .int .i64 0, .slice none 0 0, .bool false, .int .i64 0, .int .i64 0] 27))
 obtain ⟨gs, hgs⟩ := lx (w.heap.size)
 obtain ⟨gr, hgr⟩ := lx (w.heap.size + 1)
 have BS : Hid (Blk w0 gs (pc p A c) 27) := hid (by rw [hw0, hgs]; exact (Blk.new _ _ _).alloc _)
 have BR : Hid (Blk w0 gr #[.int .i64 0, .int .i64 0, .int .i64 0, .int .i64 0, .int .i64 0, .slice none 0 0, .bool false, .int .i64 0, .int .i64 0] 27) := hid (by
  have := Blk.new (w.alloc (.cells #[.int .i64 p.kind, .int .i64 p.path, .int .i64 p.number, .int .i64 p.of_, .int .i64 p.from_, .slice A p.data.length c, .bool p.fin, .int .i64 p.seen, .int .i64 p.limit] 27)) #[.int .i64 0, .int .i64 0, .int .i64 0, .int .i64 0, .int .i64 0, .slice none 0 0, .bool false, .int .i64 0, .int .i64 0] 27
  rw [hw0, hgr]
  simpa using this)
 have B0 : Hid (Below w.heap.size w w0) := hid (by rw [hw0]; exact (ba).alloc (by simp) _)
 have H := hid (h.below B0.out)
 have hge : w.heap.size ≤ gs ∧ w.heap.size ≤ gr ∧ gs ≠ gr ∧ gr ≠ gs := by omega
 have hw0' := hw0.symm
 have hgs' := hgs.symm
 have hgr' : gs + 1 = gr := by omega
 have KE : Hid (∀ W, Below w0.heap.size w0 W → W.cell? ⟨gs, 0, none⟩ = some (.int .i64 p.kind) ∧ W.cell? ⟨gs, 1, none⟩ = some (.int .i64 p.path) ∧ W.cell? ⟨gs, 2, none⟩ = some (.int .i64 p.number) ∧ W.cell? ⟨gs, 3, none⟩ = some (.int .i64 p.of_) ∧ W.cell? ⟨gs, 4, none⟩ = some (.int .i64 p.from_) ∧ W.cell? ⟨gs, 5, none⟩ = some (.slice A p.data.length c) ∧ W.cell? ⟨gs, 6, none⟩ = some (.bool p.fin) ∧ W.cell? ⟨gs, 7, none⟩ = some (.int .i64 p.seen) ∧ W.cell? ⟨gs, 8, none⟩ = some (.int .i64 p.limit)) := hid (fun W hW => by
  have b := BS.out.below hW
  exact ⟨b.cell 0, b.cell 1, b.cell 2, b.cell 3, b.cell 4, b.cell 5, b.cell 6, b.cell 7, b.cell 8⟩)
 obtain ⟨z0, hz0⟩ := lx (p.kind % 4)
 obtain ⟨z1, hz1⟩ := lx (p.path % 3)
 obtain ⟨z2, hz2⟩ := lx (p.number % 300)
 have iwk : IntKind.i64.wrap (1 + z0) = 1 + z0 := iX
 have Hz0 := hid hz0
 have Hz1 := hid hz1
 have Hz2 := hid hz2
 clear hz0 hz1 hz2
 have HW := hid h
 clear hw0 hgs hgr h
 go_enter Tryz.func24, Tryz.ntmps24
 go_upto_region 2 with fail
 clear hw0' hgs' hgr'
 go_cut [6] (fun s6 W => ∃ gp q A1 c1, s6 = .pointer (some ⟨gp, 0, none⟩) ∧ PkI w gs gr gp p A c q A1 c1 W)
 case first =>
  go_upto_region 3 with fail
  refine wp_region_held_drew (S := fun w' => w'.cell? ⟨gs, 0, none⟩ = some (.int .i64 p.kind) ∧ w'.cell? ⟨gs, 1, none⟩ = some (.int .i64 p.path) ∧ w'.cell? ⟨gs, 2, none⟩ = some (.int .i64 p.number) ∧ w'.cell? ⟨gs, 3, none⟩ = some (.int .i64 p.of_) ∧ w'.cell? ⟨gs, 4, none⟩ = some (.int .i64 p.from_) ∧ w'.cell? ⟨gs, 5, none⟩ = some (.slice A p.data.length c) ∧ w'.cell? ⟨gs, 6, none⟩ = some (.bool p.fin) ∧ w'.cell? ⟨gs, 7, none⟩ = some (.int .i64 p.seen) ∧ w'.cell? ⟨gs, 8, none⟩ = some (.int .i64 p.limit)) (by kernel_rfl) (KE.out _ bD) (fun hHeld => ?_)
  obtain ⟨wd, hwd⟩ := lx (w0.drew)
  have G0 : Hid (Below w0.heap.size w0 wd) := hid (by rw [hwd]; exact bD)
  rw [← hwd] at hHeld ⊢
  clear hwd
  refine tk 0 (oi := ⟨some 7, _, _, _, _, _⟩) rfl ?_
  refine tk 1 (oi := ⟨some 8, _, _, _, _, _⟩) rfl ?_
  refine tk 2 (oi := ⟨some 9, _, _, _, _, _⟩) rfl ?_
  refine tk 5 (oi := ⟨some 12, _, _, _, _, _⟩) rfl ?_
  refine tk 6 (oi := ⟨some 13, _, _, _, _, _⟩) rfl ?_
  refine tk 7 (oi := ⟨some 14, _, _, _, _, _⟩) rfl ?_
  refine tk 9 (oi := ⟨some 16, _, _, _, _, _⟩) rfl ?_
  refine tk 10 (oi := ⟨some 17, _, _, _, _, _⟩) rfl ?_
  refine tk 11 (oi := ⟨some 18, _, _, _, _, _⟩) rfl ?_
  refine wpAnyH_ready (rs := [3, 14]) (by kernel_rfl) (by simp) ?_; refine AllReadyH.cons (o := ⟨some 10, _, _, _, _, _⟩) rfl (fun K hK => ?_) (AllReadyH.cons (o := ⟨some 6, _, _, _, _, _⟩) rfl (fun K hK => ?_) AllReadyH.nil)
  ·go_simp
   refine (within_any p.kind 4 wd (by omega) (by omega)).mono ?_
   rintro e _ ⟨rfl, rfl⟩
   rw [← Hz0.out]
   refine Ko hK (KE.out _ G0.out) (fun hHeld => ?_)
   clear hK K
   refine tk 4 (oi := ⟨some 11, _, _, _, _, _⟩) rfl ?_
   refine wpAnyH_ready (rs := [8, 14]) (by kernel_rfl) (by simp) ?_; refine AllReadyH.cons (o := ⟨some 15, _, _, _, _, _⟩) rfl (fun K hK => ?_) (AllReadyH.cons (o := ⟨some 6, _, _, _, _, _⟩) rfl (fun K hK => ?_) AllReadyH.nil)
   ·go_simp
    refine (within_any p.path 3 wd (by omega) (by omega)).mono ?_
    rintro e _ ⟨rfl, rfl⟩
    rw [← Hz1.out]
    refine Ko hK (KE.out _ G0.out) (fun hHeld => ?_)
    clear hK K
    refine wpAnyH_ready (rs := [12, 14]) (by kernel_rfl) (by simp) ?_; refine AllReadyH.cons (o := ⟨some 19, _, _, _, _, _⟩) rfl (fun K hK => ?_) (AllReadyH.cons (o := ⟨some 6, _, _, _, _, _⟩) rfl (fun K hK => ?_) AllReadyH.nil)
    ·go_simp
     refine (within_any p.number 300 wd (by omega) (by omega)).mono ?_
     rintro e _ ⟨rfl, rfl⟩
     rw [← Hz2.out]
     refine Ko hK (KE.out _ G0.out) (fun hHeld => ?_)
     clear hK K
     refine tk 13 (oi := ⟨some 20, _, _, _, _, _⟩) rfl ?_
     refine rD 14 (o := ⟨some 6, _, _, _, _, _⟩) rfl (fun K hK => ?_)
     go_simp
     obtain ⟨w1, hw1⟩ := lx (wd.alloc (.cells #[.int .i64 0, .int .i64 0, .int .i64 0, .int .i64 0, .int .i64 0, .slice none 0 0, .bool false, .int .i64 0, .int .i64 0] 27))
     obtain ⟨gp, hgp⟩ := lx (wd.heap.size)
     have BP : Hid (Blk w1 gp #[.int .i64 0, .int .i64 0, .int .i64 0, .int .i64 0, .int .i64 0, .slice none 0 0, .bool false, .int .i64 0, .int .i64 0] 27) := hid (by rw [hw1, hgp]; exact Blk.new _ _ _)
     have G1 : Hid (Below w0.heap.size w0 w1) := hid (by rw [hw1]; exact G0.out.alloc G0.out.size _)
     have hpn : w0.heap.size ≤ gp := by have := G0.out.size; omega
     rw [← hw1, ← hgp]
     refine hK.out _ _ (KE.out _ G1.out) (fun hHeld => ?_)
     clear hw1 hgp
     clear hK K
     (try simp only [Act.put, List.setIfInBounds_toArray, List.set_cons_zero, List.set_cons_succ])
     refine rD 15 (o := ⟨none, _, _, _, _, _⟩) rfl (fun K hK => ?_)
     have r0 := BP.out.cell 0
     have r1 := BP.out.cell 1
     have r2 := BP.out.cell 2
     have r3 := BP.out.cell 3
     have r4 := BP.out.cell 4
     have r5 := BP.out.cell 5
     have r6 := BP.out.cell 6
     have r7 := BP.out.cell 7
     have r8 := BP.out.cell 8
     have f0 := BP.out.free 0
     have f1 := BP.out.free 1
     have f2 := BP.out.free 2
     have f3 := BP.out.free 3
     have f4 := BP.out.free 4
     have f5 := BP.out.free 5
     have f6 := BP.out.free 6
     have f7 := BP.out.free 7
     have f8 := BP.out.free 8
     simp only [gA, gZ, gC] at r0 r1 r2 r3 r4 r5 r6 r7 r8
     go_simp
     have g2 := Frm.below G1.out (pset9_frm w1 gp ⟨1 + z0, z1, z2, 0, 0, [], false, 0, 0⟩ (.slice none 0 0)) G1.out.size (fun j hj => by rw [hj]; exact hpn)
     refine hK.out _ _ (KE.out _ g2) (fun hHeld => ?_)
     clear r0 f0 r1 f1 r2 f2 r3 f3 r4 f4 r5 f5 r6 f6 r7 f7 r8 f8 g2
     clear hK K
     (try simp only [Act.put, List.setIfInBounds_toArray, List.set_cons_zero, List.set_cons_succ])
     refine dn ?_
     clear hHeld
     go_upto_region 3 with fail
     go_meet
     case rel =>
      have ngs : gs < w0.heap.size := BS.out.lt
      have ngr : gr < w0.heap.size := BR.out.lt
      exact ⟨gp, ⟨1 + z0, z1, z2, 0, 0, [], false, 0, 0⟩, none, 0, rfl, PkI.start (bO B0.out G1.out) (BS.out.below G1.out) (BR.out.below G1.out) BP.out ⟨by omega, by omega, by omega, by omega, by omega⟩ _ rfl⟩
    ·go_simp
     obtain ⟨w1, hw1⟩ := lx (wd.alloc (.cells #[.int .i64 0, .int .i64 0, .int .i64 0, .int .i64 0, .int .i64 0, .slice none 0 0, .bool false, .int .i64 0, .int .i64 0] 27))
     obtain ⟨gp, hgp⟩ := lx (wd.heap.size)
     have BP : Hid (Blk w1 gp #[.int .i64 0, .int .i64 0, .int .i64 0, .int .i64 0, .int .i64 0, .slice none 0 0, .bool false, .int .i64 0, .int .i64 0] 27) := hid (by rw [hw1, hgp]; exact Blk.new _ _ _)
     have G1 : Hid (Below w0.heap.size w0 w1) := hid (by rw [hw1]; exact G0.out.alloc G0.out.size _)
     have hpn : w0.heap.size ≤ gp := by have := G0.out.size; omega
     rw [← hw1, ← hgp]
     refine hK.out _ _ (KE.out _ G1.out) (fun hHeld => ?_)
     clear hw1 hgp
     clear hK K
     (try simp only [Act.put, List.setIfInBounds_toArray, List.set_cons_zero, List.set_cons_succ])
     refine rD 12 (o := ⟨some 19, _, _, _, _, _⟩) rfl (fun K hK => ?_)
     go_simp
     refine (within_any p.number 300 w1 (by omega) (by omega)).mono ?_
     rintro e _ ⟨rfl, rfl⟩
     rw [← Hz2.out]
     refine Ko hK (KE.out _ G1.out) (fun hHeld => ?_)
     clear hK K
     refine tk 13 (oi := ⟨some 20, _, _, _, _, _⟩) rfl ?_
     refine rD 15 (o := ⟨none, _, _, _, _, _⟩) rfl (fun K hK => ?_)
     have r0 := BP.out.cell 0
     have r1 := BP.out.cell 1
     have r2 := BP.out.cell 2
     have r3 := BP.out.cell 3
     have r4 := BP.out.cell 4
     have r5 := BP.out.cell 5
     have r6 := BP.out.cell 6
     have r7 := BP.out.cell 7
     have r8 := BP.out.cell 8
     have f0 := BP.out.free 0
     have f1 := BP.out.free 1
     have f2 := BP.out.free 2
     have f3 := BP.out.free 3
     have f4 := BP.out.free 4
     have f5 := BP.out.free 5
     have f6 := BP.out.free 6
     have f7 := BP.out.free 7
     have f8 := BP.out.free 8
     simp only [gA, gZ, gC] at r0 r1 r2 r3 r4 r5 r6 r7 r8
     go_simp
     have g2 := Frm.below G1.out (pset9_frm w1 gp ⟨1 + z0, z1, z2, 0, 0, [], false, 0, 0⟩ (.slice none 0 0)) G1.out.size (fun j hj => by rw [hj]; exact hpn)
     refine hK.out _ _ (KE.out _ g2) (fun hHeld => ?_)
     clear r0 f0 r1 f1 r2 f2 r3 f3 r4 f4 r5 f5 r6 f6 r7 f7 r8 f8 g2
     clear hK K
     (try simp only [Act.put, List.setIfInBounds_toArray, List.set_cons_zero, List.set_cons_succ])
     refine dn ?_
     clear hHeld
     go_upto_region 3 with fail
     go_meet
     case rel =>
      have ngs : gs < w0.heap.size := BS.out.lt
      have ngr : gr < w0.heap.size := BR.out.lt
      exact ⟨gp, ⟨1 + z0, z1, z2, 0, 0, [], false, 0, 0⟩, none, 0, rfl, PkI.start (bO B0.out G1.out) (BS.out.below G1.out) (BR.out.below G1.out) BP.out ⟨by omega, by omega, by omega, by omega, by omega⟩ _ rfl⟩
   ·go_simp
    obtain ⟨w1, hw1⟩ := lx (wd.alloc (.cells #[.int .i64 0, .int .i64 0, .int .i64 0, .int .i64 0, .int .i64 0, .slice none 0 0, .bool false, .int .i64 0, .int .i64 0] 27))
    obtain ⟨gp, hgp⟩ := lx (wd.heap.size)
    have BP : Hid (Blk w1 gp #[.int .i64 0, .int .i64 0, .int .i64 0, .int .i64 0, .int .i64 0, .slice none 0 0, .bool false, .int .i64 0, .int .i64 0] 27) := hid (by rw [hw1, hgp]; exact Blk.new _ _ _)
    have G1 : Hid (Below w0.heap.size w0 w1) := hid (by rw [hw1]; exact G0.out.alloc G0.out.size _)
    have hpn : w0.heap.size ≤ gp := by have := G0.out.size; omega
    rw [← hw1, ← hgp]
    refine hK.out _ _ (KE.out _ G1.out) (fun hHeld => ?_)
    clear hw1 hgp
    clear hK K
    (try simp only [Act.put, List.setIfInBounds_toArray, List.set_cons_zero, List.set_cons_succ])
    refine rD 8 (o := ⟨some 15, _, _, _, _, _⟩) rfl (fun K hK => ?_)
    go_simp
    refine (within_any p.path 3 w1 (by omega) (by omega)).mono ?_
    rintro e _ ⟨rfl, rfl⟩
    rw [← Hz1.out]
    refine Ko hK (KE.out _ G1.out) (fun hHeld => ?_)
    clear hK K
    refine rD 12 (o := ⟨some 19, _, _, _, _, _⟩) rfl (fun K hK => ?_)
    go_simp
    refine (within_any p.number 300 w1 (by omega) (by omega)).mono ?_
    rintro e _ ⟨rfl, rfl⟩
    rw [← Hz2.out]
    refine Ko hK (KE.out _ G1.out) (fun hHeld => ?_)
    clear hK K
    refine tk 13 (oi := ⟨some 20, _, _, _, _, _⟩) rfl ?_
    refine rD 15 (o := ⟨none, _, _, _, _, _⟩) rfl (fun K hK => ?_)
    have r0 := BP.out.cell 0
    have r1 := BP.out.cell 1
    have r2 := BP.out.cell 2
    have r3 := BP.out.cell 3
    have r4 := BP.out.cell 4
    have r5 := BP.out.cell 5
    have r6 := BP.out.cell 6
    have r7 := BP.out.cell 7
    have r8 := BP.out.cell 8
    have f0 := BP.out.free 0
    have f1 := BP.out.free 1
    have f2 := BP.out.free 2
    have f3 := BP.out.free 3
    have f4 := BP.out.free 4
    have f5 := BP.out.free 5
    have f6 := BP.out.free 6
    have f7 := BP.out.free 7
    have f8 := BP.out.free 8
    simp only [gA, gZ, gC] at r0 r1 r2 r3 r4 r5 r6 r7 r8
    go_simp
    have g2 := Frm.below G1.out (pset9_frm w1 gp ⟨1 + z0, z1, z2, 0, 0, [], false, 0, 0⟩ (.slice none 0 0)) G1.out.size (fun j hj => by rw [hj]; exact hpn)
    refine hK.out _ _ (KE.out _ g2) (fun hHeld => ?_)
    clear r0 f0 r1 f1 r2 f2 r3 f3 r4 f4 r5 f5 r6 f6 r7 f7 r8 f8 g2
    clear hK K
    (try simp only [Act.put, List.setIfInBounds_toArray, List.set_cons_zero, List.set_cons_succ])
    refine dn ?_
    clear hHeld
    go_upto_region 3 with fail
    go_meet
    case rel =>
     have ngs : gs < w0.heap.size := BS.out.lt
     have ngr : gr < w0.heap.size := BR.out.lt
     exact ⟨gp, ⟨1 + z0, z1, z2, 0, 0, [], false, 0, 0⟩, none, 0, rfl, PkI.start (bO B0.out G1.out) (BS.out.below G1.out) (BR.out.below G1.out) BP.out ⟨by omega, by omega, by omega, by omega, by omega⟩ _ rfl⟩
  ·go_simp
   obtain ⟨w1, hw1⟩ := lx (wd.alloc (.cells #[.int .i64 0, .int .i64 0, .int .i64 0, .int .i64 0, .int .i64 0, .slice none 0 0, .bool false, .int .i64 0, .int .i64 0] 27))
   obtain ⟨gp, hgp⟩ := lx (wd.heap.size)
   have BP : Hid (Blk w1 gp #[.int .i64 0, .int .i64 0, .int .i64 0, .int .i64 0, .int .i64 0, .slice none 0 0, .bool false, .int .i64 0, .int .i64 0] 27) := hid (by rw [hw1, hgp]; exact Blk.new _ _ _)
   have G1 : Hid (Below w0.heap.size w0 w1) := hid (by rw [hw1]; exact G0.out.alloc G0.out.size _)
   have hpn : w0.heap.size ≤ gp := by have := G0.out.size; omega
   rw [← hw1, ← hgp]
   refine hK.out _ _ (KE.out _ G1.out) (fun hHeld => ?_)
   clear hw1 hgp
   clear hK K
   (try simp only [Act.put, List.setIfInBounds_toArray, List.set_cons_zero, List.set_cons_succ])
   refine rD 3 (o := ⟨some 10, _, _, _, _, _⟩) rfl (fun K hK => ?_)
   go_simp
   refine (within_any p.kind 4 w1 (by omega) (by omega)).mono ?_
   rintro e _ ⟨rfl, rfl⟩
   rw [← Hz0.out]
   refine Ko hK (KE.out _ G1.out) (fun hHeld => ?_)
   clear hK K
   refine tk 4 (oi := ⟨some 11, _, _, _, _, _⟩) rfl ?_
   refine rD 8 (o := ⟨some 15, _, _, _, _, _⟩) rfl (fun K hK => ?_)
   go_simp
   refine (within_any p.path 3 w1 (by omega) (by omega)).mono ?_
   rintro e _ ⟨rfl, rfl⟩
   rw [← Hz1.out]
   refine Ko hK (KE.out _ G1.out) (fun hHeld => ?_)
   clear hK K
   refine rD 12 (o := ⟨some 19, _, _, _, _, _⟩) rfl (fun K hK => ?_)
   go_simp
   refine (within_any p.number 300 w1 (by omega) (by omega)).mono ?_
   rintro e _ ⟨rfl, rfl⟩
   rw [← Hz2.out]
   refine Ko hK (KE.out _ G1.out) (fun hHeld => ?_)
   clear hK K
   refine tk 13 (oi := ⟨some 20, _, _, _, _, _⟩) rfl ?_
   refine rD 15 (o := ⟨none, _, _, _, _, _⟩) rfl (fun K hK => ?_)
   have r0 := BP.out.cell 0
   have r1 := BP.out.cell 1
   have r2 := BP.out.cell 2
   have r3 := BP.out.cell 3
   have r4 := BP.out.cell 4
   have r5 := BP.out.cell 5
   have r6 := BP.out.cell 6
   have r7 := BP.out.cell 7
   have r8 := BP.out.cell 8
   have f0 := BP.out.free 0
   have f1 := BP.out.free 1
   have f2 := BP.out.free 2
   have f3 := BP.out.free 3
   have f4 := BP.out.free 4
   have f5 := BP.out.free 5
   have f6 := BP.out.free 6
   have f7 := BP.out.free 7
   have f8 := BP.out.free 8
   simp only [gA, gZ, gC] at r0 r1 r2 r3 r4 r5 r6 r7 r8
   go_simp
   have g2 := Frm.below G1.out (pset9_frm w1 gp ⟨1 + z0, z1, z2, 0, 0, [], false, 0, 0⟩ (.slice none 0 0)) G1.out.size (fun j hj => by rw [hj]; exact hpn)
   refine hK.out _ _ (KE.out _ g2) (fun hHeld => ?_)
   clear r0 f0 r1 f1 r2 f2 r3 f3 r4 f4 r5 f5 r6 f6 r7 f7 r8 f8 g2
   clear hK K
   (try simp only [Act.put, List.setIfInBounds_toArray, List.set_cons_zero, List.set_cons_succ])
   refine dn ?_
   clear hHeld
   go_upto_region 3 with fail
   go_meet
   case rel =>
    have ngs : gs < w0.heap.size := BS.out.lt
    have ngr : gr < w0.heap.size := BR.out.lt
    exact ⟨gp, ⟨1 + z0, z1, z2, 0, 0, [], false, 0, 0⟩, none, 0, rfl, PkI.start (bO B0.out G1.out) (BS.out.below G1.out) (BR.out.below G1.out) BP.out ⟨by omega, by omega, by omega, by omega, by omega⟩ _ rfl⟩
 case rest =>
  obtain ⟨gp, q, A1, c1, rfl, hI⟩ := hcut
  have HI := hid hI
  have k0 := hI.bp.cell 0
  simp only [gA, gZ, gC] at k0
  have KB : Hid (∀ W, Blk W gs (pc p A c) 27 → W.cell? ⟨gs, 0, none⟩ = some (.int .i64 p.kind) ∧ W.cell? ⟨gs, 1, none⟩ = some (.int .i64 p.path) ∧ W.cell? ⟨gs, 2, none⟩ = some (.int .i64 p.number) ∧ W.cell? ⟨gs, 3, none⟩ = some (.int .i64 p.of_) ∧ W.cell? ⟨gs, 4, none⟩ = some (.int .i64 p.from_) ∧ W.cell? ⟨gs, 5, none⟩ = some (.slice A p.data.length c) ∧ W.cell? ⟨gs, 6, none⟩ = some (.bool p.fin) ∧ W.cell? ⟨gs, 7, none⟩ = some (.int .i64 p.seen) ∧ W.cell? ⟨gs, 8, none⟩ = some (.int .i64 p.limit)) := hid (fun W b => ⟨b.cell 0, b.cell 1, b.cell 2, b.cell 3, b.cell 4, b.cell 5, b.cell 6, b.cell 7, b.cell 8⟩)
  clear hI H KE B0 BS BR Hz0 Hz1 Hz2 iwk hge
  go_upto_block 0 with fail
  clear k0
  go_cut [] (fun W => ∃ q A1 c1, PkI w gs gr gp p A c q A1 c1 W)
  case first =>
   by_cases h2 : q.kind = 2
   ·have e2 : (q.kind == 2) = true := by simp [h2]
    clear h2
    have v3 := (KB.out _ HI.out.bs).2.2.2.1
    have tr3 := HI.out.bp.cell 3
    have tf3 := HI.out.bp.free 3
    simp only [gA, gZ, gC] at tr3
    go_wp2_with fail
    refine (within_any p.of_ 300 wc (by omega) (by omega)).mono ?_
    rintro e _ ⟨rfl, rfl⟩
    obtain ⟨z, hz⟩ := lx (p.of_ % 300)
    rw [← hz]
    clear hz
    go_wp2_with fail
    go_meet
    case rel => exact ⟨_, _, _, HI.out.put 3 _ {q with of_ := z} rfl (by simp)⟩
   ·have e2 : (q.kind == 2) = false := by simp [h2]
    clear h2
    by_cases h3 : q.kind = 3
    ·have e3 : (q.kind == 3) = true := by simp [h3]
     clear h3
     go_wp2_with fail
     refine wp_region_held_drew (S := fun w' => w'.cell? ⟨gs, 0, none⟩ = some (.int .i64 p.kind) ∧ w'.cell? ⟨gs, 1, none⟩ = some (.int .i64 p.path) ∧ w'.cell? ⟨gs, 2, none⟩ = some (.int .i64 p.number) ∧ w'.cell? ⟨gs, 3, none⟩ = some (.int .i64 p.of_) ∧ w'.cell? ⟨gs, 4, none⟩ = some (.int .i64 p.from_) ∧ w'.cell? ⟨gs, 5, none⟩ = some (.slice A p.data.length c) ∧ w'.cell? ⟨gs, 6, none⟩ = some (.bool p.fin) ∧ w'.cell? ⟨gs, 7, none⟩ = some (.int .i64 p.seen) ∧ w'.cell? ⟨gs, 8, none⟩ = some (.int .i64 p.limit)) (by kernel_rfl) (KB.out _ (HI.out.below bD).bs) (fun hHeld => ?_)
     obtain ⟨wd, hwd⟩ := lx (wc.drew)
     have ID : Hid (PkI w gs gr gp p A c q A1 c1 wd) := hid (by rw [hwd]; exact HI.out.below bD)
     rw [← hwd] at hHeld ⊢
     clear hwd
     refine tk 0 (oi := ⟨some 32, _, _, _, _, _⟩) rfl ?_
     refine tk 1 (oi := ⟨some 33, _, _, _, _, _⟩) rfl ?_
     refine tk 2 (oi := ⟨some 34, _, _, _, _, _⟩) rfl ?_
     refine tk 4 (oi := ⟨some 36, _, _, _, _, _⟩) rfl ?_
     refine tk 5 (oi := ⟨some 37, _, _, _, _, _⟩) rfl ?_
     refine tk 7 (oi := ⟨some 39, _, _, _, _, _⟩) rfl ?_
     refine tk 8 (oi := ⟨some 40, _, _, _, _, _⟩) rfl ?_
     refine rD 3 (o := ⟨some 35, _, _, _, _, _⟩) rfl (fun K hK => ?_)
     go_simp
     refine (within_any p.from_ 200 wd (by omega) (by omega)).mono ?_
     rintro e _ ⟨rfl, rfl⟩
     obtain ⟨z4, hz⟩ := lx (p.from_ % 200)
     rw [← hz]
     clear hz
     refine Ko hK (KB.out _ ID.out.bs) (fun hHeld => ?_)
     clear hK K
     refine tk 9 (oi := ⟨some 41, _, _, _, _, _⟩) rfl ?_
     refine rD 6 (o := ⟨some 38, _, _, _, _, _⟩) rfl (fun K hK => ?_)
     go_simp
     refine (cutbv wd S _ p.data 20 (HW.out.below ID.out.f) (by omega)).mono ?_
     rintro e w2 ⟨A2, c2, rfl, h1, hb1⟩
     obtain ⟨d2, hd2⟩ := lx (p.data.take 20)
     rw [← hd2] at h1 ⊢
     have hdl : d2.length ≤ 100 := by rw [hd2, List.length_take]; omega
     clear hd2
     have D2 := hid (ID.out.cut h1)
     have I2 := hid (ID.out.below hb1)
     clear h1 hb1
     refine Ko hK (KB.out _ I2.out.bs) (fun hHeld => ?_)
     clear hK K
     refine rD 10 (o := ⟨none, _, _, _, _, _⟩) rfl (fun K hK => ?_)
     have tr4 := I2.out.bp.cell 4
     have tf4 := I2.out.bp.free 4
     simp only [gA, gZ, gC] at tr4
     go_simp
     obtain ⟨w3, hw3⟩ := lx (w2.setCell ⟨gp, 4, none⟩ (.int .i64 z4))
     obtain ⟨q', I3⟩ : ∃ q0, Hid (PkI w gs gr gp p A c q0 A1 c1 w3) := ⟨_, hid (by rw [hw3]; exact I2.out.put 4 _ {q with from_ := z4} rfl (by simp))⟩
     have w3D := hid (show BV w3 _ _ _ from by rw [hw3]; exact D2.out.frm ((Frm.refl (· = gp) w2).setg _) (fun j hj e => hj.2.1 e))
     rw [← hw3]
     refine hK.out _ _ (KB.out _ I3.out.bs) (fun hHeld => ?_)
     clear hw3 tr4 tf4
     clear hK K
     (try simp only [Act.put, List.setIfInBounds_toArray, List.set_cons_zero, List.set_cons_succ])
     refine tk 11 (oi := ⟨some 42, _, _, _, _, _⟩) rfl ?_
     refine rD 12 (o := ⟨none, _, _, _, _, _⟩) rfl (fun K hK => ?_)
     have tr5 := I3.out.bp.cell 5
     have tf5 := I3.out.bp.free 5
     simp only [gA, gZ, gC] at tr5
     go_simp
     obtain ⟨w4, hw4⟩ := lx (w3.setCell ⟨gp, 5, none⟩ (.slice A2 d2.length c2))
     obtain ⟨q'', I4⟩ : ∃ q0, Hid (PkI w gs gr gp p A c q0 A2 c2 w4) := ⟨_, hid (by rw [hw4]; exact I3.out.putD _ w3D.out hdl)⟩
     rw [← hw4]
     refine hK.out _ _ (KB.out _ I4.out.bs) (fun hHeld => ?_)
     clear hw4 tr5 tf5
     clear hK K
     (try simp only [Act.put, List.setIfInBounds_toArray, List.set_cons_zero, List.set_cons_succ])
     refine tk 13 (oi := ⟨some 43, _, _, _, _, _⟩) rfl ?_
     refine rD 14 (o := ⟨none, _, _, _, _, _⟩) rfl (fun K hK => ?_)
     have tr6 := I4.out.bp.cell 6
     have tf6 := I4.out.bp.free 6
     simp only [gA, gZ, gC] at tr6
     go_simp
     obtain ⟨w5, hw5⟩ := lx (w4.setCell ⟨gp, 6, none⟩ (.bool p.fin))
     obtain ⟨q''', I5⟩ : ∃ q0, Hid (PkI w gs gr gp p A c q0 A2 c2 w5) := ⟨_, hid (by rw [hw5]; exact I4.out.put 6 _ {q'' with fin := p.fin} rfl (by simp))⟩
     rw [← hw5]
     refine hK.out _ _ (KB.out _ I5.out.bs) (fun hHeld => ?_)
     clear hw5 tr6 tf6
     clear hK K
     (try simp only [Act.put, List.setIfInBounds_toArray, List.set_cons_zero, List.set_cons_succ])
     refine dn ?_
     clear hHeld
     go_wp2_with fail
     go_meet
     case rel => exact ⟨_, _, _, I5.out⟩
    ·have e3 : (q.kind == 3) = false := by simp [h3]
     clear h3
     by_cases h4 : q.kind = 4
     ·have e4 : (q.kind == 4) = true := by simp [h4]
      clear h4
      go_wp2_with fail
      refine wp_region_held_drew (S := fun w' => w'.cell? ⟨gs, 0, none⟩ = some (.int .i64 p.kind) ∧ w'.cell? ⟨gs, 1, none⟩ = some (.int .i64 p.path) ∧ w'.cell? ⟨gs, 2, none⟩ = some (.int .i64 p.number) ∧ w'.cell? ⟨gs, 3, none⟩ = some (.int .i64 p.of_) ∧ w'.cell? ⟨gs, 4, none⟩ = some (.int .i64 p.from_) ∧ w'.cell? ⟨gs, 5, none⟩ = some (.slice A p.data.length c) ∧ w'.cell? ⟨gs, 6, none⟩ = some (.bool p.fin) ∧ w'.cell? ⟨gs, 7, none⟩ = some (.int .i64 p.seen) ∧ w'.cell? ⟨gs, 8, none⟩ = some (.int .i64 p.limit)) (by kernel_rfl) (KB.out _ (HI.out.below bD).bs) (fun hHeld => ?_)
      obtain ⟨wd, hwd⟩ := lx (wc.drew)
      have ID : Hid (PkI w gs gr gp p A c q A1 c1 wd) := hid (by rw [hwd]; exact HI.out.below bD)
      rw [← hwd] at hHeld ⊢
      clear hwd
      refine tk 0 (oi := ⟨some 46, _, _, _, _, _⟩) rfl ?_
      refine tk 1 (oi := ⟨some 47, _, _, _, _, _⟩) rfl ?_
      refine tk 2 (oi := ⟨some 48, _, _, _, _, _⟩) rfl ?_
      refine tk 4 (oi := ⟨some 50, _, _, _, _, _⟩) rfl ?_
      refine tk 5 (oi := ⟨some 51, _, _, _, _, _⟩) rfl ?_
      refine tk 6 (oi := ⟨some 52, _, _, _, _, _⟩) rfl ?_
      refine tk 8 (oi := ⟨some 54, _, _, _, _, _⟩) rfl ?_
      refine tk 9 (oi := ⟨some 55, _, _, _, _, _⟩) rfl ?_
      refine tk 10 (oi := ⟨some 56, _, _, _, _, _⟩) rfl ?_
      refine rD 3 (o := ⟨some 49, _, _, _, _, _⟩) rfl (fun K hK => ?_)
      go_simp
      refine (within_any p.of_ 300 wd (by omega) (by omega)).mono ?_
      rintro e _ ⟨rfl, rfl⟩
      obtain ⟨z3, hz⟩ := lx (p.of_ % 300)
      rw [← hz]
      clear hz
      refine Ko hK (KB.out _ ID.out.bs) (fun hHeld => ?_)
      clear hK K
      refine tk 12 (oi := ⟨some 58, _, _, _, _, _⟩) rfl ?_
      refine rD 7 (o := ⟨some 53, _, _, _, _, _⟩) rfl (fun K hK => ?_)
      go_simp
      refine (within_any p.seen 300 wd (by omega) (by omega)).mono ?_
      rintro e _ ⟨rfl, rfl⟩
      obtain ⟨z7, hz⟩ := lx (p.seen % 300)
      rw [← hz]
      clear hz
      refine Ko hK (KB.out _ ID.out.bs) (fun hHeld => ?_)
      clear hK K
      refine rD 11 (o := ⟨some 57, _, _, _, _, _⟩) rfl (fun K hK => ?_)
      go_simp
      refine (within_any p.limit 400 wd (by omega) (by omega)).mono ?_
      rintro e _ ⟨rfl, rfl⟩
      obtain ⟨z8, hz⟩ := lx (p.limit % 400)
      rw [← hz]
      clear hz
      refine Ko hK (KB.out _ ID.out.bs) (fun hHeld => ?_)
      clear hK K
      refine rD 13 (o := ⟨none, _, _, _, _, _⟩) rfl (fun K hK => ?_)
      have tr3 := ID.out.bp.cell 3
      have tf3 := ID.out.bp.free 3
      simp only [gA, gZ, gC] at tr3
      go_simp
      obtain ⟨w3, hw3⟩ := lx (wd.setCell ⟨gp, 3, none⟩ (.int .i64 z3))
      obtain ⟨q', I3⟩ : ∃ q0, Hid (PkI w gs gr gp p A c q0 A1 c1 w3) := ⟨_, hid (by rw [hw3]; exact ID.out.put 3 _ {q with of_ := z3} rfl (by simp))⟩
      rw [← hw3]
      refine hK.out _ _ (KB.out _ I3.out.bs) (fun hHeld => ?_)
      clear hw3 tr3 tf3
      clear hK K
      (try simp only [Act.put, List.setIfInBounds_toArray, List.set_cons_zero, List.set_cons_succ])
      refine tk 14 (oi := ⟨some 59, _, _, _, _, _⟩) rfl ?_
      refine rD 15 (o := ⟨none, _, _, _, _, _⟩) rfl (fun K hK => ?_)
      have tr7 := I3.out.bp.cell 7
      have tf7 := I3.out.bp.free 7
      simp only [gA, gZ, gC] at tr7
      go_simp
      obtain ⟨w4, hw4⟩ := lx (w3.setCell ⟨gp, 7, none⟩ (.int .i64 z7))
      obtain ⟨q'', I4⟩ : ∃ q0, Hid (PkI w gs gr gp p A c q0 A1 c1 w4) := ⟨_, hid (by rw [hw4]; exact I3.out.put 7 _ {q' with seen := z7} rfl (by simp))⟩
      rw [← hw4]
      refine hK.out _ _ (KB.out _ I4.out.bs) (fun hHeld => ?_)
      clear hw4 tr7 tf7
      clear hK K
      (try simp only [Act.put, List.setIfInBounds_toArray, List.set_cons_zero, List.set_cons_succ])
      refine tk 16 (oi := ⟨some 60, _, _, _, _, _⟩) rfl ?_
      refine rD 17 (o := ⟨none, _, _, _, _, _⟩) rfl (fun K hK => ?_)
      have tr8 := I4.out.bp.cell 8
      have tf8 := I4.out.bp.free 8
      simp only [gA, gZ, gC] at tr8
      go_simp
      obtain ⟨w5, hw5⟩ := lx (w4.setCell ⟨gp, 8, none⟩ (.int .i64 z8))
      obtain ⟨q''', I5⟩ : ∃ q0, Hid (PkI w gs gr gp p A c q0 A1 c1 w5) := ⟨_, hid (by rw [hw5]; exact I4.out.put 8 _ {q'' with limit := z8} rfl (by simp))⟩
      rw [← hw5]
      refine hK.out _ _ (KB.out _ I5.out.bs) (fun hHeld => ?_)
      clear hw5 tr8 tf8
      clear hK K
      (try simp only [Act.put, List.setIfInBounds_toArray, List.set_cons_zero, List.set_cons_succ])
      refine dn ?_
      clear hHeld
      go_wp2_with fail
      go_meet
      case rel => exact ⟨_, _, _, I5.out⟩
     ·have e4 : (q.kind == 4) = false := by simp [h4]
      clear h4
      go_wp2_with fail
      go_meet
      case rel => exact ⟨_, _, _, HI.out⟩
  case rest =>
   clear HI
   obtain ⟨q, A1, c1, hI⟩ := hcut
   have HI := hid hI
   clear hI
   go_wp2_with fail
   refine (within_any n 40 wc (by omega) (by omega)).mono ?_
   rintro e _ ⟨rfl, rfl⟩
   obtain ⟨m, hm⟩ := lx (n % 40)
   rw [← hm]
   clear hm
   go_upto_block 1 with fail
   go_cut [] (fun W => ∃ q A1 c1, PkI w gs gr gp p A c q A1 c1 W)
   case first =>
    by_cases h29 : m = 29
    ·have e29 : (m == 29) = true := by simp [h29]
     clear h29
     have v := KB.out _ HI.out.bs
     obtain ⟨v0, v1, v2, v3, v4, v5, v6, v7, v8⟩ := v
     go_wp2_with fail
     refine (cutp_any wc S p _ (HW.out.below HI.out.f)).mono ?_
     rintro e w2 ⟨q2, A2, c2, rfl, h2, hl2, hb2⟩
     have I2 := hid (HI.out.below hb2)
     have H2 := hid h2
     have F2 := hid hb2
     clear h2 hb2 v0 v1 v2 v3 v4 v5 v6 v7 v8
     have r0 := I2.out.br.cell 0
     have r1 := I2.out.br.cell 1
     have r2 := I2.out.br.cell 2
     have r3 := I2.out.br.cell 3
     have r4 := I2.out.br.cell 4
     have r5 := I2.out.br.cell 5
     have r6 := I2.out.br.cell 6
     have r7 := I2.out.br.cell 7
     have r8 := I2.out.br.cell 8
     have f0 := I2.out.br.free 0
     have f1 := I2.out.br.free 1
     have f2 := I2.out.br.free 2
     have f3 := I2.out.br.free 3
     have f4 := I2.out.br.free 4
     have f5 := I2.out.br.free 5
     have f6 := I2.out.br.free 6
     have f7 := I2.out.br.free 7
     have f8 := I2.out.br.free 8
     simp only [gA, gZ, gC] at r0 r1 r2 r3 r4 r5 r6 r7 r8
     go_wp2_with fail
     refine bodyPost_ret (results_cell_row rfl _ _ gr 27 _ (0, 0) _ rfl (pset9_blk (q0 := q) (A0 := none) (c0 := 0) rfl I2.out.br q2 A2 c2) Tryz.underlying27 rfl sz27) rfl ?_
     have f := pset9_frm w2 gr q2 (.slice A2 q2.data.length c2)
     have hn := HI.out.n
     have hlt := HI.out.br.lt
     have hs := HI.out.f.size
     exact ⟨q2, A2, c2, rfl, (H2.out.frm f (fun j hj e => by omega)).mono (fun j hj _ => by omega), hl2, Frm.below I2.out.f f I2.out.f.size (fun j hj => by rw [hj]; exact hn.2.1)⟩
    ·have e29 : (m == 29) = false := by simp [h29]
     clear h29
     by_cases h30 : m = 30
     ·have e30 : (m == 30) = true := by simp [h30]
      clear h30
      have v := KB.out _ HI.out.bs
      obtain ⟨v0, v1, v2, v3, v4, v5, v6, v7, v8⟩ := v
      clear v1 v2 v3 v4 v5 v6 v7 v8
      have tr0 := HI.out.bp.cell 0
      have tf0 := HI.out.bp.free 0
      simp only [gA, gZ, gC] at tr0
      go_wp2_with fail
      go_meet
      case rel => exact ⟨_, _, _, HI.out.put 0 _ {q with kind := p.kind} rfl (by simp)⟩
     ·have e30 : (m == 30) = false := by simp [h30]
      clear h30
      by_cases h31 : m = 31
      ·have e31 : (m == 31) = true := by simp [h31]
       clear h31
       have v := KB.out _ HI.out.bs
       obtain ⟨v0, v1, v2, v3, v4, v5, v6, v7, v8⟩ := v
       clear v0 v2 v3 v4 v5 v6 v7 v8
       have tr1 := HI.out.bp.cell 1
       have tf1 := HI.out.bp.free 1
       simp only [gA, gZ, gC] at tr1
       go_wp2_with fail
       go_meet
       case rel => exact ⟨_, _, _, HI.out.put 1 _ {q with path := p.path} rfl (by simp)⟩
      ·have e31 : (m == 31) = false := by simp [h31]
       clear h31
       by_cases h32 : m = 32
       ·have e32 : (m == 32) = true := by simp [h32]
        clear h32
        have v := KB.out _ HI.out.bs
        obtain ⟨v0, v1, v2, v3, v4, v5, v6, v7, v8⟩ := v
        clear v0 v1 v3 v4 v5 v6 v7 v8
        have tr2 := HI.out.bp.cell 2
        have tf2 := HI.out.bp.free 2
        simp only [gA, gZ, gC] at tr2
        go_wp2_with fail
        go_meet
        case rel => exact ⟨_, _, _, HI.out.put 2 _ {q with number := p.number} rfl (by simp)⟩
       ·have e32 : (m == 32) = false := by simp [h32]
        clear h32
        by_cases h33 : m = 33
        ·have e33 : (m == 33) = true := by simp [h33]
         clear h33
         have v := KB.out _ HI.out.bs
         obtain ⟨v0, v1, v2, v3, v4, v5, v6, v7, v8⟩ := v
         clear v0 v1 v2 v4 v5 v6 v7 v8
         have tr3 := HI.out.bp.cell 3
         have tf3 := HI.out.bp.free 3
         simp only [gA, gZ, gC] at tr3
         go_wp2_with fail
         go_meet
         case rel => exact ⟨_, _, _, HI.out.put 3 _ {q with of_ := p.of_} rfl (by simp)⟩
        ·have e33 : (m == 33) = false := by simp [h33]
         clear h33
         by_cases h34 : m = 34
         ·have e34 : (m == 34) = true := by simp [h34]
          clear h34
          have v := KB.out _ HI.out.bs
          obtain ⟨v0, v1, v2, v3, v4, v5, v6, v7, v8⟩ := v
          clear v0 v1 v2 v3 v5 v6 v7 v8
          have tr4 := HI.out.bp.cell 4
          have tf4 := HI.out.bp.free 4
          simp only [gA, gZ, gC] at tr4
          go_wp2_with fail
          go_meet
          case rel => exact ⟨_, _, _, HI.out.put 4 _ {q with from_ := p.from_} rfl (by simp)⟩
         ·have e34 : (m == 34) = false := by simp [h34]
          clear h34
          by_cases h35 : m = 35
          ·have e35 : (m == 35) = true := by simp [h35]
           clear h35
           have v := KB.out _ HI.out.bs
           obtain ⟨v0, v1, v2, v3, v4, v5, v6, v7, v8⟩ := v
           clear v0 v1 v2 v3 v4 v6 v7 v8
           go_wp2_with fail
           refine (cutbv wc S _ p.data 70 (HW.out.below HI.out.f) (by omega)).mono ?_
           rintro e w2 ⟨A2, c2, rfl, h1, hb1⟩
           obtain ⟨d2, hd2⟩ := lx (p.data.take 70)
           rw [← hd2] at h1 ⊢
           have hdl : d2.length ≤ 100 := by rw [hd2, List.length_take]; omega
           clear hd2
           have D2 := hid (HI.out.cut h1)
           have I2 := hid (HI.out.below hb1)
           clear h1 hb1
           clear v5
           have tr5 := I2.out.bp.cell 5
           have tf5 := I2.out.bp.free 5
           simp only [gA, gZ, gC] at tr5
           go_wp2_with fail
           go_meet
           case rel => exact ⟨_, _, _, I2.out.putD _ D2.out hdl⟩
          ·have e35 : (m == 35) = false := by simp [h35]
           clear h35
           by_cases h36 : m = 36
           ·have e36 : (m == 36) = true := by simp [h36]
            clear h36
            have tr6 := HI.out.bp.cell 6
            have tf6 := HI.out.bp.free 6
            simp only [gA, gZ, gC] at tr6
            go_wp2_with fail
            go_meet
            case rel => exact ⟨_, _, _, HI.out.put 6 _ {q with fin := true} rfl (by simp)⟩
           ·have e36 : (m == 36) = false := by simp [h36]
            clear h36
            by_cases h37 : m = 37
            ·have e37 : (m == 37) = true := by simp [h37]
             clear h37
             have v := KB.out _ HI.out.bs
             obtain ⟨v0, v1, v2, v3, v4, v5, v6, v7, v8⟩ := v
             clear v0 v1 v2 v3 v4 v5 v6 v8
             have tr7 := HI.out.bp.cell 7
             have tf7 := HI.out.bp.free 7
             simp only [gA, gZ, gC] at tr7
             go_wp2_with fail
             go_meet
             case rel => exact ⟨_, _, _, HI.out.put 7 _ {q with seen := p.seen} rfl (by simp)⟩
            ·have e37 : (m == 37) = false := by simp [h37]
             clear h37
             by_cases h38 : m = 38
             ·have e38 : (m == 38) = true := by simp [h38]
              clear h38
              have v := KB.out _ HI.out.bs
              obtain ⟨v0, v1, v2, v3, v4, v5, v6, v7, v8⟩ := v
              clear v0 v1 v2 v3 v4 v5 v6 v7
              have tr8 := HI.out.bp.cell 8
              have tf8 := HI.out.bp.free 8
              simp only [gA, gZ, gC] at tr8
              go_wp2_with fail
              go_meet
              case rel => exact ⟨_, _, _, HI.out.put 8 _ {q with limit := p.limit} rfl (by simp)⟩
             ·have e38 : (m == 38) = false := by simp [h38]
              clear h38
              by_cases h39 : m = 39
              ·have e39 : (m == 39) = true := by simp [h39]
               clear h39
               go_wp2_with fail
               refine wp_region_held_drew (S := fun w' => w'.cell? ⟨gs, 0, none⟩ = some (.int .i64 p.kind) ∧ w'.cell? ⟨gs, 1, none⟩ = some (.int .i64 p.path) ∧ w'.cell? ⟨gs, 2, none⟩ = some (.int .i64 p.number) ∧ w'.cell? ⟨gs, 3, none⟩ = some (.int .i64 p.of_) ∧ w'.cell? ⟨gs, 4, none⟩ = some (.int .i64 p.from_) ∧ w'.cell? ⟨gs, 5, none⟩ = some (.slice A p.data.length c) ∧ w'.cell? ⟨gs, 6, none⟩ = some (.bool p.fin) ∧ w'.cell? ⟨gs, 7, none⟩ = some (.int .i64 p.seen) ∧ w'.cell? ⟨gs, 8, none⟩ = some (.int .i64 p.limit)) (by kernel_rfl) (KB.out _ (HI.out.below bD).bs) (fun hHeld => ?_)
               obtain ⟨wd, hwd⟩ := lx (wc.drew)
               have ID : Hid (PkI w gs gr gp p A c q A1 c1 wd) := hid (by rw [hwd]; exact HI.out.below bD)
               rw [← hwd] at hHeld ⊢
               clear hwd
               refine tk 0 (oi := ⟨some 114, _, _, _, _, _⟩) rfl ?_
               refine tk 1 (oi := ⟨some 115, _, _, _, _, _⟩) rfl ?_
               refine tk 2 (oi := ⟨some 116, _, _, _, _, _⟩) rfl ?_
               refine tk 4 (oi := ⟨some 118, _, _, _, _, _⟩) rfl ?_
               refine tk 5 (oi := ⟨some 119, _, _, _, _, _⟩) rfl ?_
               refine tk 6 (oi := ⟨some 120, _, _, _, _, _⟩) rfl ?_
               refine rD 3 (o := ⟨some 117, _, _, _, _, _⟩) rfl (fun K hK => ?_)
               go_simp
               refine (within_any p.from_ 4098 wd (by omega) (by omega)).mono ?_
               rintro e _ ⟨rfl, rfl⟩
               obtain ⟨z4, hz⟩ := lx (p.from_ % 4098)
               rw [← hz]
               clear hz
               refine Ko hK (KB.out _ ID.out.bs) (fun hHeld => ?_)
               clear hK K
               refine tk 8 (oi := ⟨some 122, _, _, _, _, _⟩) rfl ?_
               refine rD 7 (o := ⟨some 121, _, _, _, _, _⟩) rfl (fun K hK => ?_)
               go_simp
               refine (within_any p.number 65537 wd (by omega) (by omega)).mono ?_
               rintro e _ ⟨rfl, rfl⟩
               obtain ⟨z2, hz⟩ := lx (p.number % 65537)
               rw [← hz]
               clear hz
               refine Ko hK (KB.out _ ID.out.bs) (fun hHeld => ?_)
               clear hK K
               refine rD 9 (o := ⟨none, _, _, _, _, _⟩) rfl (fun K hK => ?_)
               have tr4 := ID.out.bp.cell 4
               have tf4 := ID.out.bp.free 4
               simp only [gA, gZ, gC] at tr4
               go_simp
               obtain ⟨w3, hw3⟩ := lx (wd.setCell ⟨gp, 4, none⟩ (.int .i64 z4))
               obtain ⟨q', I3⟩ : ∃ q0, Hid (PkI w gs gr gp p A c q0 A1 c1 w3) := ⟨_, hid (by rw [hw3]; exact ID.out.put 4 _ {q with from_ := z4} rfl (by simp))⟩
               rw [← hw3]
               refine hK.out _ _ (KB.out _ I3.out.bs) (fun hHeld => ?_)
               clear hw3 tr4 tf4
               clear hK K
               (try simp only [Act.put, List.setIfInBounds_toArray, List.set_cons_zero, List.set_cons_succ])
               refine tk 10 (oi := ⟨some 123, _, _, _, _, _⟩) rfl ?_
               refine rD 11 (o := ⟨none, _, _, _, _, _⟩) rfl (fun K hK => ?_)
               have tr2 := I3.out.bp.cell 2
               have tf2 := I3.out.bp.free 2
               simp only [gA, gZ, gC] at tr2
               go_simp
               obtain ⟨w4, hw4⟩ := lx (w3.setCell ⟨gp, 2, none⟩ (.int .i64 z2))
               obtain ⟨q'', I4⟩ : ∃ q0, Hid (PkI w gs gr gp p A c q0 A1 c1 w4) := ⟨_, hid (by rw [hw4]; exact I3.out.put 2 _ {q' with number := z2} rfl (by simp))⟩
               rw [← hw4]
               refine hK.out _ _ (KB.out _ I4.out.bs) (fun hHeld => ?_)
               clear hw4 tr2 tf2
               clear hK K
               (try simp only [Act.put, List.setIfInBounds_toArray, List.set_cons_zero, List.set_cons_succ])
               refine dn ?_
               clear hHeld
               go_wp2_with fail
               go_meet
               case rel => exact ⟨_, _, _, I4.out⟩
              ·have e39 : (m == 39) = false := by simp [h39]
               clear h39
               go_wp2_with fail
               go_meet
               case rel => exact ⟨_, _, _, HI.out⟩
   case rest =>
    clear HI
    obtain ⟨q, A1, c1, hI⟩ := hcut
    have HI := hid hI
    clear hI
    have p0 := HI.out.bp.cell 0
    have p1 := HI.out.bp.cell 1
    have p2 := HI.out.bp.cell 2
    have p3 := HI.out.bp.cell 3
    have p4 := HI.out.bp.cell 4
    have p5 := HI.out.bp.cell 5
    have p6 := HI.out.bp.cell 6
    have p7 := HI.out.bp.cell 7
    have p8 := HI.out.bp.cell 8
    have r0 := HI.out.br.cell 0
    have r1 := HI.out.br.cell 1
    have r2 := HI.out.br.cell 2
    have r3 := HI.out.br.cell 3
    have r4 := HI.out.br.cell 4
    have r5 := HI.out.br.cell 5
    have r6 := HI.out.br.cell 6
    have r7 := HI.out.br.cell 7
    have r8 := HI.out.br.cell 8
    have f0 := HI.out.br.free 0
    have f1 := HI.out.br.free 1
    have f2 := HI.out.br.free 2
    have f3 := HI.out.br.free 3
    have f4 := HI.out.br.free 4
    have f5 := HI.out.br.free 5
    have f6 := HI.out.br.free 6
    have f7 := HI.out.br.free 7
    have f8 := HI.out.br.free 8
    simp only [gA, gZ, gC] at p0 r0 p1 r1 p2 r2 p3 r3 p4 r4 p5 r5 p6 r6 p7 r7 p8 r8
    go_wp2_with fail
    refine bodyPost_ret (results_cell_row rfl _ _ gr 27 _ (0, 0) _ rfl (pset9_blk (q0 := q) (A0 := none) (c0 := 0) rfl HI.out.br q A1 c1) Tryz.underlying27 rfl sz27) rfl ?_
    exact HI.out.fin
end
end Go.Proofs.YtdneakejlbabeaaGreat
