/- Parts of the walk: Wc, Wd. -/
import Derived.Test.YtdneakejlbabeaaGreatM00
import Derived.Test.YtdneakejlbabeaaGreatM06
namespace Go.Proofs.YtdneakejlbabeaaGreat
open Go.RowKit
set_option linter.unusedVariables false
set_option linter.unusedSimpArgs false
section
abbrev ec (p : Ev) (A : Option Addr) (c : Nat) (C : Option Addr) (d : Nat) : Array Value := #[.int .i64 p.kind, .int .i64 p.n, .slice A p.data.length c, .int .i64 p.pk.kind, .int .i64 p.pk.path, .int .i64 p.pk.number, .int .i64 p.pk.of_, .int .i64 p.pk.from_, .slice C p.pk.data.length d, .bool p.pk.fin, .int .i64 p.pk.seen, .int .i64 p.pk.limit]
/-- Twelve cells of a block turned. -/
abbrev eset (W : World) (g : Nat) (q : Ev) (A : Option Addr) (c : Nat) (C : Option Addr) (d : Nat) : World :=
 (((((((((((W.setCell ⟨g, 0, none⟩ (.int .i64 q.kind)).setCell ⟨g, 1, none⟩ (.int .i64 q.n)).setCell ⟨g, 2, none⟩ (.slice A q.data.length c)).setCell ⟨g, 3, none⟩ (.int .i64 q.pk.kind)).setCell ⟨g, 4, none⟩ (.int .i64 q.pk.path)).setCell ⟨g, 5, none⟩ (.int .i64 q.pk.number)).setCell ⟨g, 6, none⟩ (.int .i64 q.pk.of_)).setCell ⟨g, 7, none⟩ (.int .i64 q.pk.from_)).setCell ⟨g, 8, none⟩ (.slice C q.pk.data.length d)).setCell ⟨g, 9, none⟩ (.bool q.pk.fin)).setCell ⟨g, 10, none⟩ (.int .i64 q.pk.seen)).setCell ⟨g, 11, none⟩ (.int .i64 q.pk.limit)
theorem eset_blk {W : World} {g : Nat} {xs : Array Value} (hx : xs.size = 12) (h : Blk W g xs 29) (q : Ev) (A : Option Addr) (c : Nat) (C : Option Addr) (d : Nat) : Blk (eset W g q A c C d) g (ec q A c C d) 29 := by
 obtain ⟨xs⟩ := xs
 have hx' : xs.length = 12 := hx
 match xs, hx' with
 | [a0, a1, a2, a3, a4, a5, a6, a7, a8, a9, a10, a11], _ =>
  have := ((((((((((((h.set 0 (.int .i64 q.kind)).set 1 (.int .i64 q.n)).set 2 (.slice A q.data.length c)).set 3 (.int .i64 q.pk.kind)).set 4 (.int .i64 q.pk.path)).set 5 (.int .i64 q.pk.number)).set 6 (.int .i64 q.pk.of_)).set 7 (.int .i64 q.pk.from_)).set 8 (.slice C q.pk.data.length d)).set 9 (.bool q.pk.fin)).set 10 (.int .i64 q.pk.seen)).set 11 (.int .i64 q.pk.limit))
  simpa using this
theorem eset_frm (W : World) (g : Nat) (q : Ev) (A : Option Addr) (c : Nat) (C : Option Addr) (d : Nat) : Frm (· = g) W (eset W g q A c C d) :=
 (((((((((((((Frm.refl (· = g) W).setg _).setg _).setg _).setg _).setg _).setg _).setg _).setg _).setg _).setg _).setg _).setg _)
/-- The packet's cells of an event turned. -/
abbrev ekset (W : World) (g : Nat) (q : Pk) (C : Option Addr) (d : Nat) : World :=
 ((((((((W.setCell ⟨g, 3, none⟩ (.int .i64 q.kind)).setCell ⟨g, 4, none⟩ (.int .i64 q.path)).setCell ⟨g, 5, none⟩ (.int .i64 q.number)).setCell ⟨g, 6, none⟩ (.int .i64 q.of_)).setCell ⟨g, 7, none⟩ (.int .i64 q.from_)).setCell ⟨g, 8, none⟩ (.slice C q.data.length d)).setCell ⟨g, 9, none⟩ (.bool q.fin)).setCell ⟨g, 10, none⟩ (.int .i64 q.seen)).setCell ⟨g, 11, none⟩ (.int .i64 q.limit)
theorem ekset_frm (W : World) (g : Nat) (q : Pk) (C : Option Addr) (d : Nat) : Frm (· = g) W (ekset W g q C d) :=
 (((((((((Frm.refl (· = g) W).setg _).setg _).setg _).setg _).setg _).setg _).setg _).setg _).setg _
/-- Some new event. -/
def NewO (w : World) (l : List Int) (e : Ending) (w' : World) : Prop := ∃ A c, e = .returned (.slice A l.length c) ∧ BO w.heap.size w' (.slice A l.length c) l ∧ Below w.heap.size w w'
theorem cutbo (w : World) (S : Nat → Prop) (v : Value) (l : List Int) (m : Nat) (h : BV w S v l) (hm : m ≤ 1000000) : Calls Tryz.prog 23 #[v, .int .i64 (m : Int)] w fun e w' => NewO w (l.take m) e w' := by
 refine (cutb_any w v l.length (u8s l) m h.sl hm).mono ?_
 rintro e w' ⟨v', rfl, ho, hb⟩
 have h2 : BO w.heap.size w' v' (l.take m) := ⟨by rw [List.length_take, show u8s (l.take m) = (u8s l).take m from by simp [u8s, List.map_take], Nat.min_comm]; exact ho, fun x hx => h.byt x (List.mem_of_mem_take hx)⟩
 obtain ⟨A, c, rfl, _⟩ := h2.bv.len
 exact ⟨A, c, rfl, h2, hb⟩
def NewEv (w : World) (e : Ending) (w' : World) : Prop := ∃ (q : Ev) (A : Option Addr) (c : Nat) (C : Option Addr) (d : Nat), e = .returned (eagg q (.slice A q.data.length c) (.slice C q.pk.data.length d)) ∧ EV w' (fun j => w.heap.size ≤ j) q (.slice A q.data.length c, .slice C q.pk.data.length d) ∧ q.data.length ≤ 100 ∧ q.pk.data.length ≤ 100 ∧ Below w.heap.size w w'
/-- Where an event is being made: what came lies in gs, the event in gp, the answer in gr. -/
structure EvI (w : World) (gs gr gp : Nat) (p : Ev) (A : Option Addr) (c : Nat) (C : Option Addr) (d : Nat) (q : Ev) (A1 : Option Addr) (c1 : Nat) (C1 : Option Addr) (d1 : Nat) (W : World) : Prop where
 bp : Blk W gp (ec q A1 c1 C1 d1) 29
 da : BV W (fun j => w.heap.size ≤ j ∧ j ≠ gp ∧ j ≠ gr) (.slice A1 q.data.length c1) q.data
 ka : BV W (fun j => w.heap.size ≤ j ∧ j ≠ gp ∧ j ≠ gr) (.slice C1 q.pk.data.length d1) q.pk.data
 dl : q.data.length ≤ 100
 kl : q.pk.data.length ≤ 100
 bs : Blk W gs (ec p A c C d) 29
 br : Blk W gr #[.int .i64 0, .int .i64 0, .slice none 0 0, .int .i64 0, .int .i64 0, .int .i64 0, .int .i64 0, .int .i64 0, .slice none 0 0, .bool false, .int .i64 0, .int .i64 0] 29
 f : Below w.heap.size w W
 n : w.heap.size ≤ gp ∧ w.heap.size ≤ gr ∧ gs ≠ gp ∧ gr ≠ gp ∧ gs ≠ gr
variable {w W W' : World} {gs gr gp : Nat} {p q : Ev} {A A1 A2 C C1 : Option Addr} {c c1 c2 d d1 : Nat}
theorem EvI.below (h : EvI w gs gr gp p A c C d q A1 c1 C1 d1 W) (k : Below W.heap.size W W') : EvI w gs gr gp p A c C d q A1 c1 C1 d1 W' :=
 ⟨h.bp.below k, h.da.below k, h.ka.below k, h.dl, h.kl, h.bs.below k, h.br.below k, bO h.f k, h.n⟩
/-- Cells of the event alone were turned. -/
theorem EvI.turn {q' : Ev} {A2 C2 : Option Addr} {c2 d2 : Nat} (h : EvI w gs gr gp p A c C d q A1 c1 C1 d1 W) (f : Frm (· = gp) W W') (hb : Blk W' gp (ec q' A2 c2 C2 d2) 29) (hd : BV W (fun j => w.heap.size ≤ j ∧ j ≠ gp ∧ j ≠ gr) (.slice A2 q'.data.length c2) q'.data) (hk : BV W (fun j => w.heap.size ≤ j ∧ j ≠ gp ∧ j ≠ gr) (.slice C2 q'.pk.data.length d2) q'.pk.data)
  (hdl : q'.data.length ≤ 100) (hkl : q'.pk.data.length ≤ 100) : EvI w gs gr gp p A c C d q' A2 c2 C2 d2 W' :=
 ⟨hb, hd.frm f (fun j hj e => hj.2.1 e), hk.frm f (fun j hj e => hj.2.1 e), hdl, hkl, h.bs.frm f h.n.2.2.1, h.br.frm f h.n.2.2.2.1, Frm.below h.f f h.f.size (fun j hj => by rw [hj]; exact h.n.1), h.n⟩
theorem EvI.put (h : EvI w gs gr gp p A c C d q A1 c1 C1 d1 W) (i : Nat) (u : Value) (q' : Ev) (hd : q'.data = q.data) (hk : q'.pk = q.pk) (hs : (ec q A1 c1 C1 d1).setIfInBounds i u = ec q' A1 c1 C1 d1) : EvI w gs gr gp p A c C d q' A1 c1 C1 d1 (W.setCell ⟨gp, i, none⟩ u) :=
 h.turn ((Frm.refl (· = gp) W).setg u) (hs ▸ h.bp.set i u) (by rw [hd]; exact h.da) (by rw [hk]; exact h.ka) (by rw [hd]; exact h.dl) (by rw [hk]; exact h.kl)
theorem EvI.putD (h : EvI w gs gr gp p A c C d q A1 c1 C1 d1 W) (l : List Int) (hd : BV W (fun j => w.heap.size ≤ j ∧ j ≠ gp ∧ j ≠ gr) (.slice A2 l.length c2) l) (hl : l.length ≤ 100) :
  EvI w gs gr gp p A c C d { q with data := l } A2 c2 C1 d1 (W.setCell ⟨gp, 2, none⟩ (.slice A2 l.length c2)) :=
 h.turn (q' := { q with data := l }) ((Frm.refl (· = gp) W).setg _) (by have := h.bp.set 2 (.slice A2 l.length c2); simpa using this) hd h.ka hl h.kl
theorem EvI.putK (h : EvI w gs gr gp p A c C d q A1 c1 C1 d1 W) (k : Pk) (hd : BV W (fun j => w.heap.size ≤ j ∧ j ≠ gp ∧ j ≠ gr) (.slice A2 k.data.length c2) k.data) (hl : k.data.length ≤ 100) :
  EvI w gs gr gp p A c C d { q with pk := k } A1 c1 A2 c2 (ekset W gp k A2 c2) :=
 h.turn (q' := { q with pk := k }) (ekset_frm W gp k A2 c2) (by have := (((((((((h.bp.set 3 (.int .i64 k.kind)).set 4 (.int .i64 k.path)).set 5 (.int .i64 k.number)).set 6 (.int .i64 k.of_)).set 7 (.int .i64 k.from_)).set 8 (.slice A2 k.data.length c2)).set 9 (.bool k.fin)).set 10 (.int .i64 k.seen)).set 11 (.int .i64 k.limit)); simpa using this) h.da hd h.dl hl
theorem EvI.fin (h : EvI w gs gr gp p A c C d q A1 c1 C1 d1 W) : NewEv w (.returned (eagg q (.slice A1 q.data.length c1) (.slice C1 q.pk.data.length d1))) (eset W gr q A1 c1 C1 d1) := by
 have f := eset_frm W gr q A1 c1 C1 d1
 exact ⟨q, A1, c1, C1, d1, rfl, ⟨(h.da.frm f (fun j hj e => hj.2.2 e)).mono (fun j hj _ => hj.1), (h.ka.frm f (fun j hj e => hj.2.2 e)).mono (fun j hj _ => hj.1)⟩, h.dl, h.kl, Frm.below h.f f h.f.size (fun j hj => by rw [hj]; exact h.n.2.1)⟩
/-- New bytes as data of the event. -/
theorem EvI.cut {l : List Int} (h : EvI w gs gr gp p A c C d q A1 c1 C1 d1 W) (hd : BV W' (fun j => W.heap.size ≤ j) (.slice A2 l.length c2) l) : BV W' (fun j => w.heap.size ≤ j ∧ j ≠ gp ∧ j ≠ gr) (.slice A2 l.length c2) l :=
 hd.mono (fun j hj _ => by have := h.bp.lt; have := h.br.lt; have := h.f.size; omega)
theorem EvI.start (hb : Below w.heap.size w W) (hs : Blk W gs (ec p A c C d) 29) (hr : Blk W gr #[.int .i64 0, .int .i64 0, .slice none 0 0, .int .i64 0, .int .i64 0, .int .i64 0, .int .i64 0, .int .i64 0, .slice none 0 0, .bool false, .int .i64 0, .int .i64 0] 29) (hn : w.heap.size ≤ gp ∧ w.heap.size ≤ gr ∧ gs ≠ gp ∧ gr ≠ gp ∧ gs ≠ gr) (k : Int) (hp : Blk W gp #[.int .i64 k, .int .i64 0, .slice none 0 0, .int .i64 0, .int .i64 0, .int .i64 0, .int .i64 0, .int .i64 0, .slice none 0 0, .bool false, .int .i64 0, .int .i64 0] 29) :
  EvI w gs gr gp p A c C d ⟨k, 0, [], ⟨0, 0, 0, 0, 0, [], false, 0, 0⟩⟩ none 0 none 0 W :=
 ⟨hp, BV.nil _ _, BV.nil _ _, by simp, by simp, hs, hr, hb, hn⟩
theorem EvI.putAll {q' : Ev} {A2 C2 : Option Addr} {c2 d2 : Nat} (h : EvI w gs gr gp p A c C d q A1 c1 C1 d1 W) (hd : BV W (fun j => w.heap.size ≤ j ∧ j ≠ gp ∧ j ≠ gr) (.slice A2 q'.data.length c2) q'.data) (hk : BV W (fun j => w.heap.size ≤ j ∧ j ≠ gp ∧ j ≠ gr) (.slice C2 q'.pk.data.length d2) q'.pk.data)
  (hdl : q'.data.length ≤ 100) (hkl : q'.pk.data.length ≤ 100) : EvI w gs gr gp p A c C d q' A2 c2 C2 d2 (eset W gp q' A2 c2 C2 d2) :=
 h.turn (eset_frm W gp q' A2 c2 C2 d2) (eset_blk rfl h.bp q' A2 c2 C2 d2) hd hk hdl hkl
theorem byte_more {B : Nat} {w w' : World} {A A' : Option Addr} {c c' m : Nat} {l : List Int} (h : BO B w (.slice A l.length c) l) (k : w'.ownsRow B 5 1 (.slice A' (l.length + 1) c') (l.length + 1) (u8s l ++ [.int .u8 7])) (hl : l.length ≤ m) :
  ∃ d, Hid (BO B w' (.slice A' d.length c') d) ∧ d.length ≤ m + 1 ∧ l.length + 1 = d.length := by
 refine ⟨l ++ [7], hid ⟨?_, ?_⟩, by simp; omega, by simp⟩
 ·rw [u8s_append, List.length_append]
  exact k
 ·intro x hx
  rw [List.mem_append] at hx
  rcases hx with hx | hx
  ·exact h.2 x hx
  ·simp at hx
   omega
set_option maxHeartbeats 32000000 in
set_option maxRecDepth 100000 in
theorem pevent_any (w : World) (S : Nat → Prop) (p : Ev) (x y : Value) (n : Int) (h : EV w S p (x, y)) : Calls Tryz.prog 10 #[eagg p x y, .int .i64 n] w fun e w' => NewEv w e w' := by
 obtain ⟨hx, hy⟩ := h
 dsimp only at hx hy
 obtain ⟨A, c, rfl, _⟩ := hx.len
 obtain ⟨C, d, rfl, _⟩ := hy.len
 obtain ⟨w0, hw0⟩ := lx ((w.alloc (.cells #[.int .i64 p.kind, .int .i64 p.n, .slice A p.data.length c, .int .i64 p.pk.kind, .int .i64 p.pk.path, .int .i64 p.pk.number, .int .i64 p.pk.of_, .int .i64 p.pk.from_, .slice C p.pk.data.length d, .bool p.pk.fin, .int .i64 p.pk.seen, .int .i64 p.pk.limit] 29)).alloc (.cells #[.int .i64 0, .int .i64 0, .slice none 0 0, .int .i64 0, .int .i64 0, .int .i64 0, .int .i64 0, .int .i64 0, .slice none 0 0, .bool false, .int .i64 0, .int .i64 0] 29))
 obtain ⟨gs, hgs⟩ := lx (w.heap.size)
 obtain ⟨gr, hgr⟩ := lx (w.heap.size + 1)
 have BS : Hid (Blk w0 gs (ec p A c C d) 29) := hid (by rw [hw0, hgs]; exact (Blk.new _ _ _).alloc _)
 have BR : Hid (Blk w0 gr #[.int .i64 0, .int .i64 0, .slice none 0 0, .int .i64 0, .int .i64 0, .int .i64 0, .int .i64 0, .int .i64 0, .slice none 0 0, .bool false, .int .i64 0, .int .i64 0] 29) := hid (by
  have := Blk.new (w.alloc (.cells #[.int .i64 p.kind, .int .i64 p.n, .slice A p.data.length c, .int .i64 p.pk.kind, .int .i64 p.pk.path, .int .i64 p.pk.number, .int .i64 p.pk.of_, .int .i64 p.pk.from_, .slice C p.pk.data.length d, .bool p.pk.fin, .int .i64 p.pk.seen, .int .i64 p.pk.limit] 29)) #[.int .i64 0, .int .i64 0, .slice none 0 0, .int .i64 0, .int .i64 0, .int .i64 0, .int .i64 0, .int .i64 0, .slice none 0 0, .bool false, .int .i64 0, .int .i64 0] 29
  rw [hw0, hgr]
  simpa using this)
 have B0 : Hid (Below w.heap.size w w0) := hid (by rw [hw0]; exact (ba).alloc (by simp) _)
 have hge : w.heap.size ≤ gs ∧ w.heap.size ≤ gr ∧ gs ≠ gr ∧ gr ≠ gs := by omega
 have hw0' := hw0.symm
 have hgs' := hgs.symm
 have hgr' : gs + 1 = gr := by omega
 have HX := hid hx
 have HY := hid hy
 have k0 := BS.out.cell 0
 simp only [gA, gZ, gC] at k0
 clear hw0 hgs hgr hx hy
 go_enter Tryz.func10, Tryz.ntmps10
 go_wp2_with fail
 clear hw0' hgs' hgr'
 refine (within_any p.kind 8 w0 (by omega) (by omega)).mono ?_
 rintro e _ ⟨rfl, rfl⟩
 obtain ⟨z0, hz0⟩ := lx (p.kind % 8)
 rw [← hz0]
 obtain ⟨kk, hkk⟩ := lx (1 + z0)
 have iwk : IntKind.i64.wrap (1 + z0) = kk := by rw [hkk]; exact iX
 clear hz0 hkk k0
 obtain ⟨wz, hwz⟩ := lx (w0.alloc (.cells #[.int .i64 0, .int .i64 0, .slice none 0 0, .int .i64 0, .int .i64 0, .int .i64 0, .int .i64 0, .int .i64 0, .slice none 0 0, .bool false, .int .i64 0, .int .i64 0] 29))
 obtain ⟨gp, hgp⟩ := lx (w0.heap.size)
 have ngs : gs < w0.heap.size := BS.out.lt
 have ngr : gr < w0.heap.size := BR.out.lt
 have b1 : Below w0.heap.size w0 wz := by rw [hwz]; exact ba
 have HZ : Hid (EvI w gs gr gp p A c C d ⟨0, 0, [], ⟨0, 0, 0, 0, 0, [], false, 0, 0⟩⟩ none 0 none 0 wz) := hid (EvI.start (bO B0.out b1) (BS.out.below b1) (BR.out.below b1) (by omega) 0 (by rw [hwz, hgp]; exact Blk.new _ _ _))
 have hwz' := hwz.symm
 have hgp' := hgp.symm
 have tr0 := HZ.out.bp.cell 0
 have tr1 := HZ.out.bp.cell 1
 have tr2 := HZ.out.bp.cell 2
 have tr3 := HZ.out.bp.cell 3
 have tr4 := HZ.out.bp.cell 4
 have tr5 := HZ.out.bp.cell 5
 have tr6 := HZ.out.bp.cell 6
 have tr7 := HZ.out.bp.cell 7
 have tr8 := HZ.out.bp.cell 8
 have tr9 := HZ.out.bp.cell 9
 have tr10 := HZ.out.bp.cell 10
 have tr11 := HZ.out.bp.cell 11
 have tf0 := HZ.out.bp.free 0
 have tf1 := HZ.out.bp.free 1
 have tf2 := HZ.out.bp.free 2
 have tf3 := HZ.out.bp.free 3
 have tf4 := HZ.out.bp.free 4
 have tf5 := HZ.out.bp.free 5
 have tf6 := HZ.out.bp.free 6
 have tf7 := HZ.out.bp.free 7
 have tf8 := HZ.out.bp.free 8
 have tf9 := HZ.out.bp.free 9
 have tf10 := HZ.out.bp.free 10
 have tf11 := HZ.out.bp.free 11
 simp only [gA, gZ, gC] at tr0 tr1 tr2 tr3 tr4 tr5 tr6 tr7 tr8 tr9 tr10 tr11
 clear hwz hgp b1 ngs ngr
 go_upto_block 0 with fail
 obtain ⟨w1, hw1⟩ := lx ((((((((((((wz.setCell ⟨gp, 0, none⟩ (.int .i64 kk)).setCell ⟨gp, 1, none⟩ (.int .i64 0)).setCell ⟨gp, 2, none⟩ (.slice none 0 0)).setCell ⟨gp, 3, none⟩ (.int .i64 0)).setCell ⟨gp, 4, none⟩ (.int .i64 0)).setCell ⟨gp, 5, none⟩ (.int .i64 0)).setCell ⟨gp, 6, none⟩ (.int .i64 0)).setCell ⟨gp, 7, none⟩ (.int .i64 0)).setCell ⟨gp, 8, none⟩ (.slice none 0 0)).setCell ⟨gp, 9, none⟩ (.bool false)).setCell ⟨gp, 10, none⟩ (.int .i64 0)).setCell ⟨gp, 11, none⟩ (.int .i64 0))
 have HI : Hid (EvI w gs gr gp p A c C d ⟨kk, 0, [], ⟨0, 0, 0, 0, 0, [], false, 0, 0⟩⟩ none 0 none 0 w1) := hid (by rw [hw1]; exact HZ.out.putAll (q' := ⟨kk, 0, [], ⟨0, 0, 0, 0, 0, [], false, 0, 0⟩⟩) (A2 := none) (c2 := 0) (C2 := none) (d2 := 0) (BV.nil _ _) (BV.nil _ _) (by simp) (by simp))
 rw [← hw1]
 clear hw1 hwz' hgp' iwk BS BR B0 hge HZ tr0 tf0 tr1 tf1 tr2 tf2 tr3 tf3 tr4 tf4 tr5 tf5 tr6 tf6 tr7 tf7 tr8 tf8 tr9 tf9 tr10 tf10 tr11 tf11
 obtain ⟨q, hq⟩ := lx ((⟨kk, 0, [], ⟨0, 0, 0, 0, 0, [], false, 0, 0⟩⟩ : Ev))
 obtain ⟨A1, c1, C1, d1, hI2⟩ : ∃ A1 c1 C1 d1, EvI w gs gr gp p A c C d q A1 c1 C1 d1 w1 := ⟨_, _, _, _, hq ▸ HI.out⟩
 have HJ := hid hI2
 have KB : Hid (∀ W, Blk W gs (ec p A c C d) 29 → W.cell? ⟨gs, 0, none⟩ = some (.int .i64 p.kind) ∧ W.cell? ⟨gs, 1, none⟩ = some (.int .i64 p.n) ∧ W.cell? ⟨gs, 2, none⟩ = some (.slice A p.data.length c) ∧ W.cell? ⟨gs, 3, none⟩ = some (.int .i64 p.pk.kind) ∧ W.cell? ⟨gs, 4, none⟩ = some (.int .i64 p.pk.path) ∧ W.cell? ⟨gs, 5, none⟩ = some (.int .i64 p.pk.number) ∧ W.cell? ⟨gs, 6, none⟩ = some (.int .i64 p.pk.of_) ∧ W.cell? ⟨gs, 7, none⟩ = some (.int .i64 p.pk.from_) ∧ W.cell? ⟨gs, 8, none⟩ = some (.slice C p.pk.data.length d) ∧ W.cell? ⟨gs, 9, none⟩ = some (.bool p.pk.fin) ∧ W.cell? ⟨gs, 10, none⟩ = some (.int .i64 p.pk.seen) ∧ W.cell? ⟨gs, 11, none⟩ = some (.int .i64 p.pk.limit)) := hid (fun W b => ⟨b.cell 0, b.cell 1, b.cell 2, b.cell 3, b.cell 4, b.cell 5, b.cell 6, b.cell 7, b.cell 8, b.cell 9, b.cell 10, b.cell 11⟩)
 have H5 := hid Tryz.info5
 clear hq hI2 HI
 go_cut [] (fun W => ∃ q A1 c1 C1 d1, EvI w gs gr gp p A c C d q A1 c1 C1 d1 W)
 case first =>
  by_cases h1 : kk = 1
  ·have e1 : (kk == 1) = true := by simp [h1]
   clear h1
   have v := KB.out _ HJ.out.bs
   obtain ⟨v0, v1, v2, v3, v4, v5, v6, v7, v8, v9, v10, v11⟩ := v
   clear v0 v1 v3 v4 v5 v6 v7 v8 v9 v10 v11
   go_wp2_with fail
   refine (cutbo w1 S _ p.data 90 (HX.out.below HJ.out.f) (by omega)).mono ?_
   rintro e w2 ⟨A2, c2, rfl, h1, hb1⟩
   obtain ⟨d2, hd2⟩ := lx (p.data.take 90)
   rw [← hd2] at h1 ⊢
   have hdl : d2.length ≤ 90 := by rw [hd2, List.length_take]; omega
   clear hd2 v2
   have O2 := hid h1
   have F2 := hid hb1
   have sz : w1.heap.size ≤ w2.heap.size := hb1.size
   clear h1 hb1
   go_wp2_with (at_builtin; refine wp_app w1.heap.size rfl _ _ 25 5 (.int .u8 0) 1 1 rfl Tryz.underlying25 H5.out rfl (by omega) (by omega) rfl rfl (O2.out.1.alloc _) (Sl.one w2 5 (.int .u8 7) rfl) (by omega) (Nat.le_trans sz (by simp)) ?_; intro v9 w9 hown hfr hat; have O9 := hid hown; have B9 := hid (Frm.below (F2.out.alloc sz _) hfr (Nat.le_trans sz (by simp)) (fun g hg => (O2.out.1.lt g hg).1)); obtain ⟨A9, c9, rfl⟩ := own_slice' hown; clear hown hfr hat; obtain ⟨d3, P9, hd3l, e3⟩ := byte_more O2.out O9.out hdl; rw [e3]; clear e3; have I9 := hid (HJ.out.below B9.out); have tr2 := I9.out.bp.cell 2; have tf2 := I9.out.bp.free 2; simp only [gA, gZ, gC] at tr2; clear O9 O2 F2)
   go_meet
   case rel => exact ⟨_, _, _, _, _, I9.out.putD _ (HJ.out.cut P9.out.bv) (by omega)⟩
  ·have e1 : (kk == 1) = false := by simp [h1]
   clear h1
   by_cases h2 : kk = 2
   ·have e2 : (kk == 2) = true := by simp [h2]
    clear h2
    have v := KB.out _ HJ.out.bs
    obtain ⟨v0, v1, v2, v3, v4, v5, v6, v7, v8, v9, v10, v11⟩ := v
    clear v0 v1 v3 v4 v5 v6 v7 v8 v9 v10 v11
    go_wp2_with fail
    refine (cutbo w1 S _ p.data 90 (HX.out.below HJ.out.f) (by omega)).mono ?_
    rintro e w2 ⟨A2, c2, rfl, h1, hb1⟩
    obtain ⟨d2, hd2⟩ := lx (p.data.take 90)
    rw [← hd2] at h1 ⊢
    have hdl : d2.length ≤ 90 := by rw [hd2, List.length_take]; omega
    clear hd2 v2
    have O2 := hid h1
    have F2 := hid hb1
    have sz : w1.heap.size ≤ w2.heap.size := hb1.size
    clear h1 hb1
    go_wp2_with (at_builtin; refine wp_app w1.heap.size rfl _ _ 25 5 (.int .u8 0) 1 1 rfl Tryz.underlying25 H5.out rfl (by omega) (by omega) rfl rfl (O2.out.1.alloc _) (Sl.one w2 5 (.int .u8 7) rfl) (by omega) (Nat.le_trans sz (by simp)) ?_; intro v9 w9 hown hfr hat; have O9 := hid hown; have B9 := hid (Frm.below (F2.out.alloc sz _) hfr (Nat.le_trans sz (by simp)) (fun g hg => (O2.out.1.lt g hg).1)); obtain ⟨A9, c9, rfl⟩ := own_slice' hown; clear hown hfr hat; obtain ⟨d3, P9, hd3l, e3⟩ := byte_more O2.out O9.out hdl; rw [e3]; clear e3; have I9 := hid (HJ.out.below B9.out); have tr2 := I9.out.bp.cell 2; have tf2 := I9.out.bp.free 2; simp only [gA, gZ, gC] at tr2; clear O9 O2 F2)
    go_meet
    case rel => exact ⟨_, _, _, _, _, I9.out.putD _ (HJ.out.cut P9.out.bv) (by omega)⟩
   ·have e2 : (kk == 2) = false := by simp [h2]
    clear h2
    by_cases h3 : kk = 3
    ·have e3 : (kk == 3) = true := by simp [h3]
     clear h3
     have v := KB.out _ HJ.out.bs
     obtain ⟨v0, v1, v2, v3, v4, v5, v6, v7, v8, v9, v10, v11⟩ := v
     clear v0 v2 v3 v4 v5 v6 v7 v8 v9 v10 v11
     have tr1 := HJ.out.bp.cell 1
     have tf1 := HJ.out.bp.free 1
     simp only [gA, gZ, gC] at tr1
     go_wp2_with fail
     refine (within_any p.n 100000 w1 (by omega) (by omega)).mono ?_
     rintro e _ ⟨rfl, rfl⟩
     obtain ⟨z, hz⟩ := lx (p.n % 100000)
     rw [← hz]
     obtain ⟨z2, hz2⟩ := lx (1 + z)
     have iw2 : IntKind.i64.wrap (1 + z) = z2 := by rw [hz2]; exact iX
     clear hz hz2
     go_wp2_with fail
     go_meet
     case rel => exact ⟨_, _, _, _, _, HJ.out.put 1 _ {q with n := z2} rfl rfl (by simp)⟩
    ·have e3 : (kk == 3) = false := by simp [h3]
     clear h3
     by_cases h4 : kk = 4
     ·have e4 : (kk == 4) = true := by simp [h4]
      clear h4
      have v := KB.out _ HJ.out.bs
      obtain ⟨v0, v1, v2, v3, v4, v5, v6, v7, v8, v9, v10, v11⟩ := v
      clear v0 v1 v2
      go_wp2_with fail
      refine (packet_any w1 S p.pk _ _ (HY.out.below HJ.out.f)).mono ?_
      rintro e w2 ⟨k2, A2, c2, rfl, h2, hl2, hb2⟩
      have I2 := hid (HJ.out.below hb2)
      have D2 := hid (HJ.out.cut h2)
      clear h2 hb2 v3 v4 v5 v6 v7 v8 v9 v10 v11
      have tr3 := I2.out.bp.cell 3
      have tr4 := I2.out.bp.cell 4
      have tr5 := I2.out.bp.cell 5
      have tr6 := I2.out.bp.cell 6
      have tr7 := I2.out.bp.cell 7
      have tr8 := I2.out.bp.cell 8
      have tr9 := I2.out.bp.cell 9
      have tr10 := I2.out.bp.cell 10
      have tr11 := I2.out.bp.cell 11
      have tf3 := I2.out.bp.free 3
      have tf4 := I2.out.bp.free 4
      have tf5 := I2.out.bp.free 5
      have tf6 := I2.out.bp.free 6
      have tf7 := I2.out.bp.free 7
      have tf8 := I2.out.bp.free 8
      have tf9 := I2.out.bp.free 9
      have tf10 := I2.out.bp.free 10
      have tf11 := I2.out.bp.free 11
      simp only [gA, gZ, gC] at tr3 tr4 tr5 tr6 tr7 tr8 tr9 tr10 tr11
      go_wp2_with fail
      go_meet
      case rel => exact ⟨_, _, _, _, _, I2.out.putK k2 D2.out hl2⟩
     ·have e4 : (kk == 4) = false := by simp [h4]
      clear h4
      by_cases h5 : kk = 5
      ·have e5 : (kk == 5) = true := by simp [h5]
       clear h5
       have v := KB.out _ HJ.out.bs
       obtain ⟨v0, v1, v2, v3, v4, v5, v6, v7, v8, v9, v10, v11⟩ := v
       clear v0 v1 v2
       go_wp2_with fail
       refine (packet_any w1 S p.pk _ _ (HY.out.below HJ.out.f)).mono ?_
       rintro e w2 ⟨k2, A2, c2, rfl, h2, hl2, hb2⟩
       have I2 := hid (HJ.out.below hb2)
       have D2 := hid (HJ.out.cut h2)
       clear h2 hb2 v3 v4 v5 v6 v7 v8 v9 v10 v11
       have tr3 := I2.out.bp.cell 3
       have tr4 := I2.out.bp.cell 4
       have tr5 := I2.out.bp.cell 5
       have tr6 := I2.out.bp.cell 6
       have tr7 := I2.out.bp.cell 7
       have tr8 := I2.out.bp.cell 8
       have tr9 := I2.out.bp.cell 9
       have tr10 := I2.out.bp.cell 10
       have tr11 := I2.out.bp.cell 11
       have tf3 := I2.out.bp.free 3
       have tf4 := I2.out.bp.free 4
       have tf5 := I2.out.bp.free 5
       have tf6 := I2.out.bp.free 6
       have tf7 := I2.out.bp.free 7
       have tf8 := I2.out.bp.free 8
       have tf9 := I2.out.bp.free 9
       have tf10 := I2.out.bp.free 10
       have tf11 := I2.out.bp.free 11
       simp only [gA, gZ, gC] at tr3 tr4 tr5 tr6 tr7 tr8 tr9 tr10 tr11
       go_wp2_with fail
       go_meet
       case rel => exact ⟨_, _, _, _, _, I2.out.putK k2 D2.out hl2⟩
      ·have e5 : (kk == 5) = false := by simp [h5]
       clear h5
       by_cases h7 : kk = 7
       ·have e7 : (kk == 7) = true := by simp [h7]
        clear h7
        have v := KB.out _ HJ.out.bs
        obtain ⟨v0, v1, v2, v3, v4, v5, v6, v7, v8, v9, v10, v11⟩ := v
        clear v0 v2 v3 v4 v5 v6 v7 v8 v9 v10 v11
        have tr1 := HJ.out.bp.cell 1
        have tf1 := HJ.out.bp.free 1
        simp only [gA, gZ, gC] at tr1
        go_wp2_with fail
        refine (within_any p.n 3 w1 (by omega) (by omega)).mono ?_
        rintro e _ ⟨rfl, rfl⟩
        obtain ⟨z, hz⟩ := lx (p.n % 3)
        rw [← hz]
        clear hz
        go_wp2_with fail
        go_meet
        case rel => exact ⟨_, _, _, _, _, HJ.out.put 1 _ {q with n := z} rfl rfl (by simp)⟩
       ·have e7 : (kk == 7) = false := by simp [h7]
        clear h7
        by_cases h8 : kk = 8
        ·have e8 : (kk == 8) = true := by simp [h8]
         clear h8
         have v := KB.out _ HJ.out.bs
         obtain ⟨v0, v1, v2, v3, v4, v5, v6, v7, v8, v9, v10, v11⟩ := v
         clear v0 v2 v3 v4 v5 v6 v7 v8 v9 v10 v11
         have tr1 := HJ.out.bp.cell 1
         have tf1 := HJ.out.bp.free 1
         simp only [gA, gZ, gC] at tr1
         go_wp2_with fail
         refine (within_any p.n 3 w1 (by omega) (by omega)).mono ?_
         rintro e _ ⟨rfl, rfl⟩
         obtain ⟨z, hz⟩ := lx (p.n % 3)
         rw [← hz]
         clear hz
         go_wp2_with fail
         go_meet
         case rel => exact ⟨_, _, _, _, _, HJ.out.put 1 _ {q with n := z} rfl rfl (by simp)⟩
        ·have e8 : (kk == 8) = false := by simp [h8]
         clear h8
         go_wp2_with fail
         go_meet
         case rel => exact ⟨_, _, _, _, _, HJ.out⟩
 case rest =>
  clear HJ
  obtain ⟨q, A1, c1, C1, d1, hI⟩ := hcut
  have HJ := hid hI
  clear hI
  go_wp2_with fail
  refine (within_any n 40 wc (by omega) (by omega)).mono ?_
  rintro e _ ⟨rfl, rfl⟩
  obtain ⟨m, hm⟩ := lx (n % 40)
  rw [← hm]
  clear hm
  go_upto_block 1 with fail
  go_cut [] (fun W => ∃ q A1 c1 C1 d1, EvI w gs gr gp p A c C d q A1 c1 C1 d1 W)
  case first =>
   by_cases h35 : m = 35
   ·have e35 : (m == 35) = true := by simp [h35]
    clear h35
    have v := KB.out _ HJ.out.bs
    obtain ⟨v0, v1, v2, v3, v4, v5, v6, v7, v8, v9, v10, v11⟩ := v
    clear v1 v2 v3 v4 v5 v6 v7 v8 v9 v10 v11
    have tr0 := HJ.out.bp.cell 0
    have tf0 := HJ.out.bp.free 0
    simp only [gA, gZ, gC] at tr0
    go_wp2_with fail
    go_meet
    case rel => exact ⟨_, _, _, _, _, HJ.out.put 0 _ {q with kind := p.kind} rfl rfl (by simp)⟩
   ·have e35 : (m == 35) = false := by simp [h35]
    clear h35
    by_cases h36 : m = 36
    ·have e36 : (m == 36) = true := by simp [h36]
     clear h36
     have v := KB.out _ HJ.out.bs
     obtain ⟨v0, v1, v2, v3, v4, v5, v6, v7, v8, v9, v10, v11⟩ := v
     clear v0 v2 v3 v4 v5 v6 v7 v8 v9 v10 v11
     have tr1 := HJ.out.bp.cell 1
     have tf1 := HJ.out.bp.free 1
     simp only [gA, gZ, gC] at tr1
     go_wp2_with fail
     go_meet
     case rel => exact ⟨_, _, _, _, _, HJ.out.put 1 _ {q with n := p.n} rfl rfl (by simp)⟩
    ·have e36 : (m == 36) = false := by simp [h36]
     clear h36
     by_cases h37 : m = 37
     ·have e37 : (m == 37) = true := by simp [h37]
      clear h37
      have v := KB.out _ HJ.out.bs
      obtain ⟨v0, v1, v2, v3, v4, v5, v6, v7, v8, v9, v10, v11⟩ := v
      clear v0 v1 v3 v4 v5 v6 v7 v8 v9 v10 v11
      go_wp2_with fail
      refine (cutbv wc S _ p.data 90 (HX.out.below HJ.out.f) (by omega)).mono ?_
      rintro e w2 ⟨A2, c2, rfl, h1, hb1⟩
      obtain ⟨d2, hd2⟩ := lx (p.data.take 90)
      rw [← hd2] at h1 ⊢
      have hdl : d2.length ≤ 100 := by rw [hd2, List.length_take]; omega
      clear hd2
      have D2 := hid (HJ.out.cut h1)
      have I2 := hid (HJ.out.below hb1)
      clear h1 hb1 v2
      have tr2 := I2.out.bp.cell 2
      have tf2 := I2.out.bp.free 2
      simp only [gA, gZ, gC] at tr2
      go_wp2_with fail
      go_meet
      case rel => exact ⟨_, _, _, _, _, I2.out.putD _ D2.out hdl⟩
     ·have e37 : (m == 37) = false := by simp [h37]
      clear h37
      by_cases h38 : m = 38
      ·have e38 : (m == 38) = true := by simp [h38]
       clear h38
       have v := KB.out _ HJ.out.bs
       obtain ⟨v0, v1, v2, v3, v4, v5, v6, v7, v8, v9, v10, v11⟩ := v
       clear v0 v1 v2
       go_wp2_with fail
       refine (cutp_any wc S p.pk _ (HY.out.below HJ.out.f)).mono ?_
       rintro e w2 ⟨k2, A2, c2, rfl, h2, hl2, hb2⟩
       have I2 := hid (HJ.out.below hb2)
       have D2 := hid (HJ.out.cut h2)
       clear h2 hb2 v3 v4 v5 v6 v7 v8 v9 v10 v11
       have tr3 := I2.out.bp.cell 3
       have tr4 := I2.out.bp.cell 4
       have tr5 := I2.out.bp.cell 5
       have tr6 := I2.out.bp.cell 6
       have tr7 := I2.out.bp.cell 7
       have tr8 := I2.out.bp.cell 8
       have tr9 := I2.out.bp.cell 9
       have tr10 := I2.out.bp.cell 10
       have tr11 := I2.out.bp.cell 11
       have tf3 := I2.out.bp.free 3
       have tf4 := I2.out.bp.free 4
       have tf5 := I2.out.bp.free 5
       have tf6 := I2.out.bp.free 6
       have tf7 := I2.out.bp.free 7
       have tf8 := I2.out.bp.free 8
       have tf9 := I2.out.bp.free 9
       have tf10 := I2.out.bp.free 10
       have tf11 := I2.out.bp.free 11
       simp only [gA, gZ, gC] at tr3 tr4 tr5 tr6 tr7 tr8 tr9 tr10 tr11
       go_wp2_with fail
       go_meet
       case rel => exact ⟨_, _, _, _, _, I2.out.putK k2 D2.out hl2⟩
      ·have e38 : (m == 38) = false := by simp [h38]
       clear h38
       by_cases h39 : m = 39
       ·have e39 : (m == 39) = true := by simp [h39]
        clear h39
        go_wp2_with fail
        refine wp_region_held_drew (S := fun w' => w'.cell? ⟨gs, 0, none⟩ = some (.int .i64 p.kind) ∧ w'.cell? ⟨gs, 1, none⟩ = some (.int .i64 p.n) ∧ w'.cell? ⟨gs, 2, none⟩ = some (.slice A p.data.length c) ∧ w'.cell? ⟨gs, 3, none⟩ = some (.int .i64 p.pk.kind) ∧ w'.cell? ⟨gs, 4, none⟩ = some (.int .i64 p.pk.path) ∧ w'.cell? ⟨gs, 5, none⟩ = some (.int .i64 p.pk.number) ∧ w'.cell? ⟨gs, 6, none⟩ = some (.int .i64 p.pk.of_) ∧ w'.cell? ⟨gs, 7, none⟩ = some (.int .i64 p.pk.from_) ∧ w'.cell? ⟨gs, 8, none⟩ = some (.slice C p.pk.data.length d) ∧ w'.cell? ⟨gs, 9, none⟩ = some (.bool p.pk.fin) ∧ w'.cell? ⟨gs, 10, none⟩ = some (.int .i64 p.pk.seen) ∧ w'.cell? ⟨gs, 11, none⟩ = some (.int .i64 p.pk.limit)) (by kernel_rfl) (KB.out _ (HJ.out.below bD).bs) (fun hHeld => ?_)
        obtain ⟨wd, hwd⟩ := lx (wc.drew)
        have ID : Hid (EvI w gs gr gp p A c C d q A1 c1 C1 d1 wd) := hid (by rw [hwd]; exact HJ.out.below bD)
        rw [← hwd] at hHeld ⊢
        clear hwd
        refine tk 0 (oi := ⟨some 76, _, _, _, _, _⟩) rfl ?_
        refine tk 1 (oi := ⟨some 77, _, _, _, _, _⟩) rfl ?_
        refine tk 2 (oi := ⟨some 78, _, _, _, _, _⟩) rfl ?_
        refine tk 3 (oi := ⟨some 79, _, _, _, _, _⟩) rfl ?_
        refine tk 4 (oi := ⟨some 80, _, _, _, _, _⟩) rfl ?_
        refine tk 5 (oi := ⟨some 81, _, _, _, _, _⟩) rfl ?_
        refine tk 7 (oi := ⟨some 83, _, _, _, _, _⟩) rfl ?_
        refine tk 8 (oi := ⟨some 84, _, _, _, _, _⟩) rfl ?_
        refine rD 6 (o := ⟨some 82, _, _, _, _, _⟩) rfl (fun K hK => ?_)
        go_simp
        refine (cutbv wd S _ p.data 90 (HX.out.below ID.out.f) (by omega)).mono ?_
        rintro e w2 ⟨A2, c2, rfl, h1, hb1⟩
        obtain ⟨d2, hd2⟩ := lx (p.data.take 90)
        rw [← hd2] at h1 ⊢
        have hdl : d2.length ≤ 100 := by rw [hd2, List.length_take]; omega
        clear hd2
        have D2 := hid (ID.out.cut h1)
        have I2 := hid (ID.out.below hb1)
        refine hK.out _ _ (KB.out _ I2.out.bs) (fun hHeld => ?_)
        clear h1 hb1
        clear hK K
        (try simp only [Act.put, List.setIfInBounds_toArray, List.set_cons_zero, List.set_cons_succ])
        refine rD 9 (o := ⟨some 85, _, _, _, _, _⟩) rfl (fun K hK => ?_)
        go_simp
        refine (cutp_any w2 S p.pk _ (HY.out.below I2.out.f)).mono ?_
        rintro e w3 ⟨k3, A3, c3, rfl, h3, hl3, hb3⟩
        have I3 := hid (I2.out.below hb3)
        have D3 := hid (I2.out.cut h3)
        have D4 := hid (D2.out.below hb3)
        refine hK.out _ _ (KB.out _ I3.out.bs) (fun hHeld => ?_)
        clear h3 hb3
        clear hK K
        (try simp only [Act.put, List.setIfInBounds_toArray, List.set_cons_zero, List.set_cons_succ])
        refine tk 10 (oi := ⟨some 86, _, _, _, _, _⟩) rfl ?_
        refine rD 11 (o := ⟨none, _, _, _, _, _⟩) rfl (fun K hK => ?_)
        have tr0 := I3.out.bp.cell 0
        have tr1 := I3.out.bp.cell 1
        have tr2 := I3.out.bp.cell 2
        have tr3 := I3.out.bp.cell 3
        have tr4 := I3.out.bp.cell 4
        have tr5 := I3.out.bp.cell 5
        have tr6 := I3.out.bp.cell 6
        have tr7 := I3.out.bp.cell 7
        have tr8 := I3.out.bp.cell 8
        have tr9 := I3.out.bp.cell 9
        have tr10 := I3.out.bp.cell 10
        have tr11 := I3.out.bp.cell 11
        have tf0 := I3.out.bp.free 0
        have tf1 := I3.out.bp.free 1
        have tf2 := I3.out.bp.free 2
        have tf3 := I3.out.bp.free 3
        have tf4 := I3.out.bp.free 4
        have tf5 := I3.out.bp.free 5
        have tf6 := I3.out.bp.free 6
        have tf7 := I3.out.bp.free 7
        have tf8 := I3.out.bp.free 8
        have tf9 := I3.out.bp.free 9
        have tf10 := I3.out.bp.free 10
        have tf11 := I3.out.bp.free 11
        simp only [gA, gZ, gC] at tr0 tr1 tr2 tr3 tr4 tr5 tr6 tr7 tr8 tr9 tr10 tr11
        go_simp
        have i4 := I3.out.putAll (q' := ⟨p.kind, p.n, d2, k3⟩) D4.out D3.out hdl hl3
        have I4 := hid i4
        refine hK.out _ _ (KB.out _ i4.bs) (fun hHeld => ?_)
        clear i4 tr0 tf0 tr1 tf1 tr2 tf2 tr3 tf3 tr4 tf4 tr5 tf5 tr6 tf6 tr7 tf7 tr8 tf8 tr9 tf9 tr10 tf10 tr11 tf11
        clear hK K
        (try simp only [Act.put, List.setIfInBounds_toArray, List.set_cons_zero, List.set_cons_succ])
        refine dn ?_
        clear hHeld
        go_wp2_with fail
        go_meet
        case rel => exact ⟨_, _, _, _, _, I4.out⟩
       ·have e39 : (m == 39) = false := by simp [h39]
        clear h39
        go_wp2_with fail
        go_meet
        case rel => exact ⟨_, _, _, _, _, HJ.out⟩
  case rest =>
   clear HJ
   obtain ⟨q, A1, c1, C1, d1, hI⟩ := hcut
   have HJ := hid hI
   clear hI
   have p0 := HJ.out.bp.cell 0
   have p1 := HJ.out.bp.cell 1
   have p2 := HJ.out.bp.cell 2
   have p3 := HJ.out.bp.cell 3
   have p4 := HJ.out.bp.cell 4
   have p5 := HJ.out.bp.cell 5
   have p6 := HJ.out.bp.cell 6
   have p7 := HJ.out.bp.cell 7
   have p8 := HJ.out.bp.cell 8
   have p9 := HJ.out.bp.cell 9
   have p10 := HJ.out.bp.cell 10
   have p11 := HJ.out.bp.cell 11
   have r0 := HJ.out.br.cell 0
   have r1 := HJ.out.br.cell 1
   have r2 := HJ.out.br.cell 2
   have r3 := HJ.out.br.cell 3
   have r4 := HJ.out.br.cell 4
   have r5 := HJ.out.br.cell 5
   have r6 := HJ.out.br.cell 6
   have r7 := HJ.out.br.cell 7
   have r8 := HJ.out.br.cell 8
   have r9 := HJ.out.br.cell 9
   have r10 := HJ.out.br.cell 10
   have r11 := HJ.out.br.cell 11
   have f0 := HJ.out.br.free 0
   have f1 := HJ.out.br.free 1
   have f2 := HJ.out.br.free 2
   have f3 := HJ.out.br.free 3
   have f4 := HJ.out.br.free 4
   have f5 := HJ.out.br.free 5
   have f6 := HJ.out.br.free 6
   have f7 := HJ.out.br.free 7
   have f8 := HJ.out.br.free 8
   have f9 := HJ.out.br.free 9
   have f10 := HJ.out.br.free 10
   have f11 := HJ.out.br.free 11
   simp only [gA, gZ, gC] at p0 r0 p1 r1 p2 r2 p3 r3 p4 r4 p5 r5 p6 r6 p7 r7 p8 r8 p9 r9 p10 r10 p11 r11
   go_wp2_with fail
   refine bodyPost_ret (results_cell_row rfl _ _ gr 29 _ (0, 0) _ rfl (eset_blk rfl HJ.out.br q A1 c1 C1 d1) Tryz.underlying29 rfl Tryz.size29) rfl ?_
   exact HJ.out.fin
end

section
def SmE (es : List Ev) : Prop := ∀ e ∈ es, e.data.length ≤ 100 ∧ e.pk.data.length ≤ 100
def EvsR (w : World) (v i : Value) (wr : World) : Prop :=
 ∃ (k : Nat) (es : List Ev) (S : Nat → Prop), k ≤ 10 ∧ es.length = k ∧ i = .int .i64 k ∧ OutG ecells 12 29 (fun S w (e : Ev) x => EV w S e x) w.heap.size S wr v es ∧ (∀ j, S j → w.heap.size ≤ j) ∧ SmE es ∧ Below w.heap.size w wr
def NewEvs (w : World) (e : Ending) (w' : World) : Prop := ∃ v es S, e = .returned v ∧ ERow S w' v es ∧ es.length ≤ 10 ∧ SmE es ∧ Below w.heap.size w w'
set_option maxHeartbeats 8000000 in
set_option maxRecDepth 100000 in
theorem events_any (w : World) (S : Nat → Prop) (v : Value) (ps : List Ev) (h : ERow S w v ps) : Calls Tryz.prog 7 #[v, .slice none 0 0, .int .i64 10] w fun e w' => NewEvs w e w' := by
 obtain ⟨A, c, rfl, hc1, hc2⟩ := h.len
 have H := hid h
 have HI := hid Tryz.info29
 unfold maxLen at hc2
 clear h
 go_enter Tryz.func7, Tryz.ntmps7
 go_wp2_with fail
 go_loopw [7, 8] (fun v i wr => EvsR w v i wr) (fun _ i _ => 10 - (intOf i).toNat)
 case atStart => exact ⟨0, [], fun _ => False, Nat.zero_le _, rfl, rfl, OutG.nil _ _ _ _ _ _ _, fun _ h => h.elim, fun e he => by simp at he, Below.refl _ _⟩
 case round =>
  obtain ⟨k, es, S1, hk, hel, rfl, hout, hS1, hsm, hb⟩ := hrel
  have iwk : IntKind.i64.wrap ((k : Int) + 1) = (k : Int) + 1 := iX
  obtain ⟨A1, c1, rfl⟩ := hout.form
  have OUT := hid hout
  have BR := hid hb
  have HS := hid hsm
  have HEL := hid hel
  have sr : w.heap.size ≤ wr.heap.size := hb.size
  clear hout hb hsm
  have k0 : (0 : Int) ≤ (k : Int) := by omega
  by_cases hkn : k < ps.length
  ·have k1 : (k : Int) < (ps.length : Int) := by omega
   by_cases hk10 : k < 10
   ·have k2 : (k : Int) < 10 := by omega
    obtain ⟨ad, p, x, y, rfl, he, hx, hce⟩ := ERow.ev (H.out.below BR.out) hkn
    obtain ⟨a0, a1, a2, a3, a4, a5, a6, a7, a8, a9, a10, a11⟩ := hce
    obtain ⟨X1, x1, rfl, _⟩ := hx.1.len
    obtain ⟨Y1, y1, rfl, _⟩ := hx.2.len
    have EX : Hid (EV wr S p (.slice X1 p.data.length x1, .slice Y1 p.pk.data.length y1)) := hid hx
    clear he hx hel
    go_wp2_with fail
    refine (pevent_any wr S p _ _ _ EX.out).mono ?_
    rintro r w2 ⟨e2, X2, x2, Y2, y2, rfl, hx2, hl1, hl2, hb2⟩
    obtain ⟨vs, p1, p2, p3, p4⟩ := OUT.out
    have OW := hid (own_frm p1 (Frm.of_below (S := fun _ => False) hb2) (fun _ _ h => h))
    have hol : es.length ≤ 10 := by have := HEL.out; omega
    have EX2 := hid hx2
    have KK := hid hb2
    have P1 := hid p1
    have P2 := hid p2
    have P3 := hid p3
    have P4 := hid p4
    have sz2 : w.heap.size ≤ w2.heap.size := Nat.le_trans sr hb2.size
    clear p1 p2 p3 p4 hx2 hb2 a0 a1 a2 a3 a4 a5 a6 a7 a8 a9 a10 a11
    go_wp2_with (at_builtin; refine wp_app w.heap.size rfl _ _ 30 29 _ 12 128 rfl Tryz.underlying30 HI.out rfl (by omega) (by omega) rfl rfl (OW.out.alloc _) (Sl.boxk w2 29 12 (ecells e2 (.slice X2 e2.data.length x2, .slice Y2 e2.pk.data.length y2)) _ (by simp) rfl (EV.one EX2.out)) (by omega) (Nat.le_trans sz2 (by simp)) ?_; intro v3 w3 hown hfr hat)
    have hnew := OutG.snoc liesE (T' := fun j => wr.heap.size ≤ j) P1.out P2.out P3.out P4.out KK.out EX2.out (fun j hj => hj) hfr hown hat
    have hb3 : Below w.heap.size w w3 := Frm.below ((BR.out.trans (KK.out.mono sr)).alloc sz2 _) hfr (Nat.le_trans sz2 (by simp)) (fun j hj => (P1.out.lt j hj).1)
    have mk : ∀ S3, OutG ecells 12 29 (fun S w (e : Ev) x => EV w S e x) w.heap.size S3 w3 v3 (es ++ [e2]) → (∀ j, S3 j → w.heap.size ≤ j) → ∀ i, i = Value.int .i64 ((k + 1 : Nat) : Int) → EvsR w v3 i w3 := fun S3 h1 h2 i hi => ⟨k + 1, es ++ [e2], S3, by omega, by simp [HEL.out], hi, h1, h2, (fun e he => by
     rw [List.mem_append] at he
     rcases he with he | he
     ·exact HS.out e he
     ·rw [List.mem_singleton] at he
      rw [he]
      exact ⟨hl1, hl2⟩), hb3⟩
    have REL := hid (mk _ hnew (fun j hj => by
     rcases hj with hj | hj
     ·exact hS1 j hj.1
     ·exact Nat.le_trans sr hj.1))
    clear hnew hb3 hown hfr hat mk
    try go_wp2_with fail
    go_roundw
    case rel => exact REL.out _ (by go_num)
    case measure => simp [intOf]; omega
   ·have k2 : ¬ (k : Int) < 10 := by omega
    clear hel
    go_wp2_with fail
    go_ret
    exact ⟨_, es, S1, rfl, OUT.out.row (fun a b hab => EV.one hab), by rw [HEL.out]; omega, HS.out, BR.out⟩
  ·have k1 : ¬ (k : Int) < (ps.length : Int) := by omega
   clear hel
   go_wp2_with fail
   go_ret
   exact ⟨_, es, S1, rfl, OUT.out.row (fun a b hab => EV.one hab), by rw [HEL.out]; omega, HS.out, BR.out⟩
end
end Go.Proofs.YtdneakejlbabeaaGreat
