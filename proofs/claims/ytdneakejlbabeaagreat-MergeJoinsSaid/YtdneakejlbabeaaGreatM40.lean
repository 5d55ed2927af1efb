/- Parts of the walk: Wj. -/
import Derived.Test.YtdneakejlbabeaaGreatM00
import Derived.Deep.DeepCutAuto
import Derived.Deep.CutBlock
import Derived.Test.YtdneakejlbabeaaGreatM14
import Derived.Test.YtdneakejlbabeaaGreatM39
namespace Go.Proofs.YtdneakejlbabeaaGreat
open Go.RowKit
set_option linter.unusedVariables false
set_option linter.unusedSimpArgs false
section
/-- The texts of some events are short. -/
def Sm2 (es : List Ev) : Prop := ∀ e ∈ es, e.data.length ≤ 2000000 ∧ e.pk.data.length ≤ 2000000
theorem rjoin_at (w : World) (S : Nat → Prop) (va vb : Value) (a b : List Ev) (ha : ERow S w va a) (hb : ERow S w vb b) (la : a.length ≤ 500000) (lb : b.length ≤ 500000) (l : List (Int × Ev)) (at_ side : Int) (ok : Bool) (hJ : J a b = (l, at_, side, ok)) :
  Calls Tryz.prog 12 #[va, vb] w fun r w' => ∃ A c D, r = .returned (.tuple #[.slice A l.length c, .int .i64 at_, .int .i64 side, .bool ok]) ∧ NRow D w' (.slice A l.length c) l ∧ Below w.heap.size w w' := by
 refine (rjoin_any w S va vb a b ha hb la lb).mono ?_
 rintro r w' ⟨v, D, rfl, hr, hb⟩
 rw [hJ] at hr
 obtain ⟨A, c, rfl, _⟩ := hr.len
 exact ⟨A, c, D, by rw [hJ], hr, hb⟩
theorem ERow.wide {S : Nat → Prop} {w : World} {v : Value} {es : List Ev} (h : ERow S w v es) : ERow (fun _ => True) w v es := by
 obtain ⟨vs, h1, h2, h3⟩ := h
 exact ⟨vs, h1, h2, fun i a b ha hb => (h3 i a b ha hb).mono (fun _ _ _ => trivial)⟩
theorem blk_slices {w : World} {g : Nat} {A A' : Option Addr} {n n' c c' : Nat} {t : TypeId} (h : Blk w g #[.slice A n c, .slice A' n' c'] t) {p : Addr} {v : Value} (hp : w.cell? p = some v) (hg : p.block = g) : ∃ B m d, v = .slice B m d := by
 unfold Blk at h
 unfold World.cell? at hp
 rw [hg, h] at hp
 dsimp only at hp
 split at hp
 ·cases hp
 ·have h1 := (Array.getElem?_eq_some_iff.1 hp).1
  simp at h1
  have h2 : p.off = 0 ∨ p.off = 1 := by omega
  rcases h2 with h2 | h2 <;> rw [h2] at hp <;> simp at hp <;> exact ⟨_, _, _, hp.symm⟩
section
variable {w : World} {g : Nat} {A A' : Option Addr} {n n' c c' : Nat} {t : TypeId}
theorem BV.apart {S : Nat → Prop} {v : Value} {l : List Int} (h : BV w S v l) (hb : Blk w g #[.slice A n c, .slice A' n' c'] t) : BV w (fun j => j ≠ g) v l := by
 obtain ⟨B, d, rfl, h1, h2, h3⟩ := h
 refine ⟨B, d, rfl, h1, fun h0 j hj => ⟨fun e => ?_, (h2 h0 j hj).2⟩, h3⟩
 obtain ⟨ad, rfl, hc⟩ := h1.at_ h0
 have hl : (u8s l).getD 0 undef = .int .u8 (l.getD 0 0) := by
  cases l with
  | nil => simp at h0
  | cons x l => rfl
 rw [hl, addr_zero] at hc
 injection hj with hj
 obtain ⟨_, _, _, e2⟩ := blk_slices hb hc (by rw [hj]; exact e)
 cases e2
theorem ERow.setX {v : Value} {es : List Ev} (h : ERow (fun _ => True) w v es) (hb : Blk w g #[.slice A n c, .slice A' n' c'] t) (i : Nat) (u : Value) : ERow (fun _ => True) (w.setCell ⟨g, i, none⟩ u) v es := by
 have F := (Frm.refl (· = g) w).setg (i := i) u
 obtain ⟨B, d, rfl, _⟩ := RowV.len h
 have key : 0 < es.length → ∀ j, (Value.slice B es.length d).ownBlock = some j → j ≠ g := fun h0 j hj e => by
  obtain ⟨ad, f, x, y, rfl, _, _, hc⟩ := ERow.ev h h0
  have h1 := hc.1
  rw [Nat.zero_mul, addr_zero] at h1
  injection hj with hj
  obtain ⟨_, _, _, e2⟩ := blk_slices hb h1 (by rw [hj]; exact e)
  cases e2
 obtain ⟨vs, h1, h2, h3⟩ := h
 refine ⟨vs, h1, ?_, fun i a b ha hb' => ⟨((h3 i a b ha hb').1.apart hb).frm F (fun j hj e => hj e) |>.mono (fun _ _ _ => trivial), ((h3 i a b ha hb').2.apart hb).frm F (fun j hj e => hj e) |>.mono (fun _ _ _ => trivial)⟩⟩
 by_cases h0 : 0 < es.length
 ·exact h2.frm F (fun j hj e => key h0 j hj e)
 ·obtain ⟨A1, c1, e, g1, g2, g3, g4, g5⟩ := h2
  exact ⟨A1, c1, e, g1, g2, g3, g4, fun hp => absurd hp (by rw [g3]; omega)⟩
end
/-- Two logs in a pair's block. -/
def XS (w : World) (gX : Nat) (W : World) : Prop := ∃ (A0 A1 : Option Addr) (c0 c1 : Nat) (a b : List Ev), Blk W gX #[.slice A0 a.length c0, .slice A1 b.length c1] 31 ∧ ERow (fun _ => True) W (.slice A0 a.length c0) a ∧ ERow (fun _ => True) W (.slice A1 b.length c1) b ∧ a.length ≤ 500000 ∧ b.length ≤ 500000 ∧ Sm2 a ∧ Sm2 b ∧ Below w.heap.size w W
theorem XS.put0 {w W : World} {gX : Nat} {A0 A1 : Option Addr} {c0 c1 : Nat} {a0 b : List Ev} (hb : Blk W gX #[.slice A0 a0.length c0, .slice A1 b.length c1] 31) (h1 : ERow (fun _ => True) W (.slice A1 b.length c1) b) (l1 : b.length ≤ 500000) (s1 : Sm2 b) (hB : Below w.heap.size w W) (hg : w.heap.size ≤ gX)
  {A : Option Addr} {c : Nat} {a : List Ev} (h0 : ERow (fun _ => True) W (.slice A a.length c) a) (l0 : a.length ≤ 500000) (s0 : Sm2 a) : XS w gX (W.setCell ⟨gX, 0, none⟩ (.slice A a.length c)) :=
 ⟨A, A1, c, c1, a, b, by simpa using hb.set 0 (.slice A a.length c), h0.setX hb 0 _, h1.setX hb 0 _, l0, l1, s0, s1, Frm.below hB ((Frm.refl (· = gX) W).setg _) hB.size (fun i hi => by rw [hi]; exact hg)⟩
theorem XS.put1 {w W : World} {gX : Nat} {A0 A1 : Option Addr} {c0 c1 : Nat} {a b0 : List Ev} (hb : Blk W gX #[.slice A0 a.length c0, .slice A1 b0.length c1] 31) (h0 : ERow (fun _ => True) W (.slice A0 a.length c0) a) (l0 : a.length ≤ 500000) (s0 : Sm2 a) (hB : Below w.heap.size w W) (hg : w.heap.size ≤ gX)
  {A : Option Addr} {c : Nat} {b : List Ev} (h1 : ERow (fun _ => True) W (.slice A b.length c) b) (l1 : b.length ≤ 500000) (s1 : Sm2 b) : XS w gX (W.setCell ⟨gX, 1, none⟩ (.slice A b.length c)) :=
 ⟨A0, A, c0, c, a, b, by simpa using hb.set 1 (.slice A b.length c), h0.setX hb 1 _, h1.setX hb 1 _, l0, l1, s0, s1, Frm.below hB ((Frm.refl (· = gX) W).setg _) hB.size (fun i hi => by rw [hi]; exact hg)⟩
theorem SmE.sm2 {es : List Ev} (h : SmE es) : Sm2 es := fun e he => by
 have := h e he
 omega
/-- What a join that is not stuck gives. -/
theorem J_ok {a b : List Ev} {l : List (Int × Ev)} {at_ sd : Int} {ok : Bool} (h : J a b = (l, at_, sd, ok)) : l.length ≤ a.length + b.length ∧ (ok = true → Right a b l) := by
 rcases join_half a b (a.length + b.length + 1) 0 0 [] (by omega) (half_nil a b) with ⟨k, h2, h3⟩ | ⟨m0, m1, q, s, h2, _⟩
 ·have h4 : J a b = (k, 0, 0, true) := h2
  rw [h4] at h
  injection h with e1 e2
  subst e1
  exact ⟨Nat.le_of_eq h3.len, fun _ => h3⟩
 ·have h4 : J a b = ([], q, s, false) := h2
  rw [h4] at h
  injection h with e1 e2
  injection e2 with e3 e4
  injection e4 with e5 e6
  subst e1
  exact ⟨by simp, fun e => by rw [e] at e6; cases e6⟩
theorem right_sm {a b : List Ev} {l : List (Int × Ev)} (h : Right a b l) (ha : Sm2 a) (hb : Sm2 b) : Small l := fun y hy => by
 obtain ⟨s, e⟩ := y
 have hs := h.t _ hy
 have hm := mem_only hy
 dsimp only at hs
 rcases hs with rfl | rfl
 ·rw [h.o0] at hm
  exact ha e hm
 ·rw [h.o1] at hm
  exact hb e hm
set_option maxHeartbeats 32000000 in
set_option maxRecDepth 100000 in
theorem joins_any (w : World) (s0 s1 s2 s3 s4 s5 s6 side how at_ to_ : Int) (a : Option Addr) (len cap : Nat) (p : Ev) (x y v8 v9 : Value) (raw : Bool) (es fs : List Ev) (hr : ChRow w a len) (hlc : len ≤ cap) (hcm : cap ≤ maxLen) (hp : EV w (old w) p (x, y)) (h8 : ERow (old w) w v8 es) (h9 : ERow (old w) w v9 fs) :
  Calls Tryz.prog 3 #[.agg #[.int .i64 s0, .int .i64 s1, .int .i64 s2, .int .i64 s3, .int .i64 s4, .int .i64 s5, .int .i64 s6], .slice a len cap, .int .i64 side, .int .i64 how, .int .i64 at_, .int .i64 to_, eagg p x y, .bool raw, v8, v9] w fun r w' => r = .returned (.bool true) ∧ Below w.heap.size w w' := by
 have HR := hid hr
 obtain ⟨hx, hy⟩ := hp
 dsimp only at hx hy
 obtain ⟨X, x_, rfl, _⟩ := hx.len
 obtain ⟨Y, y_, rfl, _⟩ := hy.len
 obtain ⟨w0, hw0⟩ := lx ((w.alloc (.cells #[.int .i64 s0, .int .i64 s1, .int .i64 s2, .int .i64 s3, .int .i64 s4, .int .i64 s5, .int .i64 s6] 23)).alloc (.cells #[.int .i64 p.kind, .int .i64 p.n, .slice X p.data.length x_, .int .i64 p.pk.kind, .int .i64 p.pk.path, .int .i64 p.pk.number, .int .i64 p.pk.of_, .int .i64 p.pk.from_, .slice Y p.pk.data.length y_, .bool p.pk.fin, .int .i64 p.pk.seen, .int .i64 p.pk.limit] 29))
 obtain ⟨gs, hgs⟩ := lx (w.heap.size)
 obtain ⟨gE, hgE⟩ := lx (w.heap.size + 1)
 have BS : Hid (Blk w0 gs #[.int .i64 s0, .int .i64 s1, .int .i64 s2, .int .i64 s3, .int .i64 s4, .int .i64 s5, .int .i64 s6] 23) := hid (by rw [hw0, hgs]; exact (Blk.new _ _ _).alloc _)
 have BE : Hid (Blk w0 gE #[.int .i64 p.kind, .int .i64 p.n, .slice X p.data.length x_, .int .i64 p.pk.kind, .int .i64 p.pk.path, .int .i64 p.pk.number, .int .i64 p.pk.of_, .int .i64 p.pk.from_, .slice Y p.pk.data.length y_, .bool p.pk.fin, .int .i64 p.pk.seen, .int .i64 p.pk.limit] 29) := hid (by
  have := Blk.new (w.alloc (.cells #[.int .i64 s0, .int .i64 s1, .int .i64 s2, .int .i64 s3, .int .i64 s4, .int .i64 s5, .int .i64 s6] 23)) #[.int .i64 p.kind, .int .i64 p.n, .slice X p.data.length x_, .int .i64 p.pk.kind, .int .i64 p.pk.path, .int .i64 p.pk.number, .int .i64 p.pk.of_, .int .i64 p.pk.from_, .slice Y p.pk.data.length y_, .bool p.pk.fin, .int .i64 p.pk.seen, .int .i64 p.pk.limit] 29
  rw [hw0, hgE]
  simpa using this)
 have B0 : Hid (Below w.heap.size w w0) := hid (by rw [hw0]; exact (ba).alloc (by simp) _)
 have EP : Hid (EV w0 (fun _ => True) p (.slice X p.data.length x_, .slice Y p.pk.data.length y_)) := hid ⟨(hx.mono (fun _ _ _ => trivial)).below B0.out, (hy.mono (fun _ _ _ => trivial)).below B0.out⟩
 have E8 := hid (h8.wide.below B0.out)
 have E9 := hid (h9.wide.below B0.out)
 have hw0' := hw0.symm
 have hgs' := hgs.symm
 have hgE' : gs + 1 = gE := by omega
 have k0 := BS.out.cell 0
 have k1 := BS.out.cell 1
 have k2 := BS.out.cell 2
 have k3 := BS.out.cell 3
 have k4 := BS.out.cell 4
 have k5 := BS.out.cell 5
 have k6 := BS.out.cell 6
 simp only [gA, gZ, gC] at k0 k1 k2 k3 k4 k5 k6
 clear hw0 hgs hgE hr hx hy h8 h9
 go_enter Tryz.func3, Tryz.ntmps3
 go_wp2_with fail
 clear hw0' hgs' hgE'
 refine (config_any w0 s0 s1 s2 s3 s4 s5 s6).mono ?_
 rintro r w1 ⟨c, nn, rfl, hc, hn1, hn2, hb1⟩
 have R1 := hid ((HR.out.below B0.out).below hb1)
 have B1 := hid (bO B0.out hb1)
 have BE1 := hid (BE.out.below hb1)
 have EP1 := hid (evb' EP.out hb1)
 have E81 := hid (E8.out.below hb1)
 have E91 := hid (E9.out.below hb1)
 have HC := hid hc
 clear hb1 hc k0 k1 k2 k3 k4 k5 k6 BS HR B0 BE EP E8 E9
 go_wp2_with fail
 refine (logs_any w1 c nn HC.out ⟨hn1, hn2⟩ a len cap R1.out hlc hcm 40 (by omega)).mono ?_
 rintro r w2 ⟨v0, v1, a1, b1, wl, S, rfl, h0, h1, hR, la, lb, sa, sb, hb2⟩
 obtain ⟨A0, c0, rfl, _⟩ := h0.len
 obtain ⟨A1, c1, rfl, _⟩ := h1.len
 obtain ⟨W2, hW2⟩ := lx (w2.alloc (.cells #[.slice A0 a1.length c0, .slice A1 b1.length c1] 31))
 obtain ⟨gX, hgx⟩ := lx (w2.heap.size)
 have BX : Hid (Blk W2 gX #[.slice A0 a1.length c0, .slice A1 b1.length c1] 31) := hid (by rw [hW2, hgx]; exact Blk.new _ _ _)
 have BW : Below w2.heap.size w2 W2 := by rw [hW2]; exact ba
 have bw1 := bO hb2 BW
 have E0 := hid (h0.wide.below BW)
 have E1 := hid (h1.wide.below BW)
 have B3 := hid (bO B1.out bw1)
 have BE3 := hid (BE1.out.below bw1)
 have EP3 := hid (evb' EP1.out bw1)
 have E83 := hid (E81.out.below bw1)
 have E93 := hid (E91.out.below bw1)
 have SA := hid sa
 have SB := hid sb
 have hgw : w.heap.size ≤ gX := by have := B1.out.size; have := hb2.size; omega
 have hW2' := hW2.symm
 have hgx' := hgx.symm
 have k0 := BX.out.cell 0
 have k1 := BX.out.cell 1
 simp only [gA, gZ, gC] at  k0 k1
 clear h0 h1 hb2 hR sa sb R1 B1 HC BW bw1 hW2 hgx hn1 hn2 hcm hlc BE1 EP1 E81 E91
 go_upto_if 35 with fail
 clear hW2' hgx' k0 k1
 go_cut [] (fun W => XS w gX W)
 case first =>
  cases raw
  ·obtain ⟨q, hq⟩ : ∃ q, (how.tmod 3 != 0) = q := ⟨_, rfl⟩
   cases q
   ·go_wp2_with fail
    go_meet
    case rel => exact ⟨A0, A1, c0, c1, a1, b1, BX.out, E0.out, E1.out, by omega, by omega, SA.out.up, SB.out.up, B3.out⟩
   ·go_wp2_with fail
    refine (within_any side 2 W2 (by omega) (by omega)).mono ?_
    rintro e _ ⟨rfl, rfl⟩
    have hk : side % 2 = 0 ∨ side % 2 = 1 := by omega
    rcases hk with hk | hk
    ·rw [hk]
     clear hk hq
     have KE : Hid (∀ w', Below W2.heap.size W2 w' → (w'.cell? ⟨gE, 0, none⟩ = some (.int .i64 p.kind) ∧ w'.cell? ⟨gE, 1, none⟩ = some (.int .i64 p.n) ∧ w'.cell? ⟨gE, 2, none⟩ = some (.slice X p.data.length x_) ∧ w'.cell? ⟨gE, 3, none⟩ = some (.int .i64 p.pk.kind) ∧ w'.cell? ⟨gE, 4, none⟩ = some (.int .i64 p.pk.path) ∧ w'.cell? ⟨gE, 5, none⟩ = some (.int .i64 p.pk.number) ∧ w'.cell? ⟨gE, 6, none⟩ = some (.int .i64 p.pk.of_) ∧ w'.cell? ⟨gE, 7, none⟩ = some (.int .i64 p.pk.from_) ∧ w'.cell? ⟨gE, 8, none⟩ = some (.slice Y p.pk.data.length y_) ∧ w'.cell? ⟨gE, 9, none⟩ = some (.bool p.pk.fin) ∧ w'.cell? ⟨gE, 10, none⟩ = some (.int .i64 p.pk.seen) ∧ w'.cell? ⟨gE, 11, none⟩ = some (.int .i64 p.pk.limit))) := hid (fun W hW => by
      have b := BE3.out.below hW
      exact ⟨b.cell 0, b.cell 1, b.cell 2, b.cell 3, b.cell 4, b.cell 5, b.cell 6, b.cell 7, b.cell 8, b.cell 9, b.cell 10, b.cell 11⟩)
     go_wp2_with fail
     refine wp_region_held_drew (S := fun w' => w'.cell? ⟨gE, 0, none⟩ = some (.int .i64 p.kind) ∧ w'.cell? ⟨gE, 1, none⟩ = some (.int .i64 p.n) ∧ w'.cell? ⟨gE, 2, none⟩ = some (.slice X p.data.length x_) ∧ w'.cell? ⟨gE, 3, none⟩ = some (.int .i64 p.pk.kind) ∧ w'.cell? ⟨gE, 4, none⟩ = some (.int .i64 p.pk.path) ∧ w'.cell? ⟨gE, 5, none⟩ = some (.int .i64 p.pk.number) ∧ w'.cell? ⟨gE, 6, none⟩ = some (.int .i64 p.pk.of_) ∧ w'.cell? ⟨gE, 7, none⟩ = some (.int .i64 p.pk.from_) ∧ w'.cell? ⟨gE, 8, none⟩ = some (.slice Y p.pk.data.length y_) ∧ w'.cell? ⟨gE, 9, none⟩ = some (.bool p.pk.fin) ∧ w'.cell? ⟨gE, 10, none⟩ = some (.int .i64 p.pk.seen) ∧ w'.cell? ⟨gE, 11, none⟩ = some (.int .i64 p.pk.limit)) (by kernel_rfl) (KE.out _ bD) (fun hHeld => ?_)
     obtain ⟨wd, hwd⟩ := lx (W2.drew)
     have GD : Hid (Below W2.heap.size W2 wd) := hid (by rw [hwd]; exact bD)
     rw [← hwd] at hHeld ⊢
     clear hwd
     have x0 := (BX.out.below GD.out).cell 0
     simp only [gA, gZ, gC] at x0
     refine tk 0 (oi := ⟨some 47, _, _, _, _, _⟩) rfl ?_
     refine tk 1 (oi := ⟨some 48, _, _, _, _, _⟩) rfl ?_
     refine tk 2 (oi := ⟨some 49, _, _, _, _, _⟩) rfl ?_
     refine tk 4 (oi := ⟨some 51, _, _, _, _, _⟩) rfl ?_
     refine tk 5 (oi := ⟨some 52, _, _, _, _, _⟩) rfl ?_
     refine tk 6 (oi := ⟨some 53, _, _, _, _, _⟩) rfl ?_
     refine tk 7 (oi := ⟨some 54, _, _, _, _, _⟩) rfl ?_
     refine tk 8 (oi := ⟨some 55, _, _, _, _, _⟩) rfl ?_
     refine tk 9 (oi := ⟨some 56, _, _, _, _, _⟩) rfl ?_
     refine wpAnyH_ready (rs := [3, 10]) (by kernel_rfl) (by simp) ?_; refine AllReadyH.cons (o := ⟨some 50, _, _, _, _, _⟩) rfl (fun K hK => ?_) (AllReadyH.cons (o := ⟨some 57, _, _, _, _, _⟩) rfl (fun K hK => ?_) AllReadyH.nil)
     ·go_simp
      refine Ko hK (KE.out _ GD.out) (fun hHeld => ?_)
      clear hK K
      refine rD 10 (o := ⟨some 57, _, _, _, _, _⟩) rfl (fun K hK => ?_)
      go_simp
      refine (pevent_any wd _ p _ _ _ (evb' EP3.out GD.out)).mono ?_
      rintro _ w3 ⟨p3, A3, c3, C3, d3, rfl, h3, l3, l4, hb3⟩
      have EP4 := hid h3
      have GE := hid (bO GD.out hb3)
      clear hb3 h3 x0
      have x0 := (BX.out.below GE.out).cell 0
      simp only [gA, gZ, gC] at x0
      refine Ko hK (KE.out _ GE.out) (fun hHeld => ?_)
      clear hK K
      refine rD 11 (o := ⟨some 58, _, _, _, _, _⟩) rfl (fun K hK => ?_)
      go_simp
      refine (change_any w3 _ _ _ a1 p3 _ _ _ _ _ (E0.out.below GE.out) EP4.out (by omega) SA.out (by omega) (by omega)).mono ?_
      rintro _ w4 ⟨v4, e4, rfl, r4, m4, s4, hb4⟩
      have R4 := hid r4
      have S4 := hid s4
      have GF := hid (bO GE.out hb4)
      obtain ⟨A4, c4, rfl, _⟩ := r4.len
      clear hb4 r4 s4 x0
      have x0 := (BX.out.below GF.out).cell 0
      simp only [gA, gZ, gC] at x0
      have y0 := (BX.out.below GF.out).free 0
      refine Ko hK (KE.out _ GF.out) (fun hHeld => ?_)
      clear hK K
      refine tk 12 (oi := ⟨some 59, _, _, _, _, _⟩) rfl ?_
      refine rD 13 (o := ⟨none, _, _, _, _, _⟩) rfl (fun K hK => ?_)
      go_simp
      have S42 : Sm2 e4 := fun e he => by have := S4.out e he; omega
      have XF := hid (XS.put0 (BX.out.below GF.out) (E1.out.below GF.out) (by omega) SB.out.up (bO B3.out GF.out) hgw R4.out (by omega) S42)
      have nE : gE ≠ gX := by have h1 := BE3.out; have h2 := BX.out; unfold Blk at h1 h2; intro e; rw [e, h2] at h1; cases h1
      have K5 := (BE3.out.below GF.out).far (p := ⟨gX, 0, none⟩) nE (.slice A4 e4.length c4)
      refine hK.out _ _ ⟨K5.cell 0, K5.cell 1, K5.cell 2, K5.cell 3, K5.cell 4, K5.cell 5, K5.cell 6, K5.cell 7, K5.cell 8, K5.cell 9, K5.cell 10, K5.cell 11⟩ (fun hHeld => ?_)
      clear K5
      clear hK K
      (try simp only [Act.put, List.setIfInBounds_toArray, List.set_cons_zero, List.set_cons_succ])
      refine dn ?_
      clear hHeld
      go_wp2_with fail
      go_meet
      case rel => exact XF.out
     ·go_simp
      refine (pevent_any wd _ p _ _ _ (evb' EP3.out GD.out)).mono ?_
      rintro _ w3 ⟨p3, A3, c3, C3, d3, rfl, h3, l3, l4, hb3⟩
      have EP4 := hid h3
      have GE := hid (bO GD.out hb3)
      clear hb3 h3 x0
      have x0 := (BX.out.below GE.out).cell 0
      simp only [gA, gZ, gC] at x0
      refine Ko hK (KE.out _ GE.out) (fun hHeld => ?_)
      clear hK K
      refine rD 3 (o := ⟨some 50, _, _, _, _, _⟩) rfl (fun K hK => ?_)
      go_simp
      refine Ko hK (KE.out _ GE.out) (fun hHeld => ?_)
      clear hK K
      refine rD 11 (o := ⟨some 58, _, _, _, _, _⟩) rfl (fun K hK => ?_)
      go_simp
      refine (change_any w3 _ _ _ a1 p3 _ _ _ _ _ (E0.out.below GE.out) EP4.out (by omega) SA.out (by omega) (by omega)).mono ?_
      rintro _ w4 ⟨v4, e4, rfl, r4, m4, s4, hb4⟩
      have R4 := hid r4
      have S4 := hid s4
      have GF := hid (bO GE.out hb4)
      obtain ⟨A4, c4, rfl, _⟩ := r4.len
      clear hb4 r4 s4 x0
      have x0 := (BX.out.below GF.out).cell 0
      simp only [gA, gZ, gC] at x0
      have y0 := (BX.out.below GF.out).free 0
      refine Ko hK (KE.out _ GF.out) (fun hHeld => ?_)
      clear hK K
      refine tk 12 (oi := ⟨some 59, _, _, _, _, _⟩) rfl ?_
      refine rD 13 (o := ⟨none, _, _, _, _, _⟩) rfl (fun K hK => ?_)
      go_simp
      have S42 : Sm2 e4 := fun e he => by have := S4.out e he; omega
      have XF := hid (XS.put0 (BX.out.below GF.out) (E1.out.below GF.out) (by omega) SB.out.up (bO B3.out GF.out) hgw R4.out (by omega) S42)
      have nE : gE ≠ gX := by have h1 := BE3.out; have h2 := BX.out; unfold Blk at h1 h2; intro e; rw [e, h2] at h1; cases h1
      have K5 := (BE3.out.below GF.out).far (p := ⟨gX, 0, none⟩) nE (.slice A4 e4.length c4)
      refine hK.out _ _ ⟨K5.cell 0, K5.cell 1, K5.cell 2, K5.cell 3, K5.cell 4, K5.cell 5, K5.cell 6, K5.cell 7, K5.cell 8, K5.cell 9, K5.cell 10, K5.cell 11⟩ (fun hHeld => ?_)
      clear K5
      clear hK K
      (try simp only [Act.put, List.setIfInBounds_toArray, List.set_cons_zero, List.set_cons_succ])
      refine dn ?_
      clear hHeld
      go_wp2_with fail
      go_meet
      case rel => exact XF.out
    ·rw [hk]
     clear hk hq
     have KE : Hid (∀ w', Below W2.heap.size W2 w' → (w'.cell? ⟨gE, 0, none⟩ = some (.int .i64 p.kind) ∧ w'.cell? ⟨gE, 1, none⟩ = some (.int .i64 p.n) ∧ w'.cell? ⟨gE, 2, none⟩ = some (.slice X p.data.length x_) ∧ w'.cell? ⟨gE, 3, none⟩ = some (.int .i64 p.pk.kind) ∧ w'.cell? ⟨gE, 4, none⟩ = some (.int .i64 p.pk.path) ∧ w'.cell? ⟨gE, 5, none⟩ = some (.int .i64 p.pk.number) ∧ w'.cell? ⟨gE, 6, none⟩ = some (.int .i64 p.pk.of_) ∧ w'.cell? ⟨gE, 7, none⟩ = some (.int .i64 p.pk.from_) ∧ w'.cell? ⟨gE, 8, none⟩ = some (.slice Y p.pk.data.length y_) ∧ w'.cell? ⟨gE, 9, none⟩ = some (.bool p.pk.fin) ∧ w'.cell? ⟨gE, 10, none⟩ = some (.int .i64 p.pk.seen) ∧ w'.cell? ⟨gE, 11, none⟩ = some (.int .i64 p.pk.limit))) := hid (fun W hW => by
      have b := BE3.out.below hW
      exact ⟨b.cell 0, b.cell 1, b.cell 2, b.cell 3, b.cell 4, b.cell 5, b.cell 6, b.cell 7, b.cell 8, b.cell 9, b.cell 10, b.cell 11⟩)
     go_wp2_with fail
     refine wp_region_held_drew (S := fun w' => w'.cell? ⟨gE, 0, none⟩ = some (.int .i64 p.kind) ∧ w'.cell? ⟨gE, 1, none⟩ = some (.int .i64 p.n) ∧ w'.cell? ⟨gE, 2, none⟩ = some (.slice X p.data.length x_) ∧ w'.cell? ⟨gE, 3, none⟩ = some (.int .i64 p.pk.kind) ∧ w'.cell? ⟨gE, 4, none⟩ = some (.int .i64 p.pk.path) ∧ w'.cell? ⟨gE, 5, none⟩ = some (.int .i64 p.pk.number) ∧ w'.cell? ⟨gE, 6, none⟩ = some (.int .i64 p.pk.of_) ∧ w'.cell? ⟨gE, 7, none⟩ = some (.int .i64 p.pk.from_) ∧ w'.cell? ⟨gE, 8, none⟩ = some (.slice Y p.pk.data.length y_) ∧ w'.cell? ⟨gE, 9, none⟩ = some (.bool p.pk.fin) ∧ w'.cell? ⟨gE, 10, none⟩ = some (.int .i64 p.pk.seen) ∧ w'.cell? ⟨gE, 11, none⟩ = some (.int .i64 p.pk.limit)) (by kernel_rfl) (KE.out _ bD) (fun hHeld => ?_)
     obtain ⟨wd, hwd⟩ := lx (W2.drew)
     have GD : Hid (Below W2.heap.size W2 wd) := hid (by rw [hwd]; exact bD)
     rw [← hwd] at hHeld ⊢
     clear hwd
     have x0 := (BX.out.below GD.out).cell 1
     simp only [gA, gZ, gC] at x0
     refine tk 0 (oi := ⟨some 47, _, _, _, _, _⟩) rfl ?_
     refine tk 1 (oi := ⟨some 48, _, _, _, _, _⟩) rfl ?_
     refine tk 2 (oi := ⟨some 49, _, _, _, _, _⟩) rfl ?_
     refine tk 4 (oi := ⟨some 51, _, _, _, _, _⟩) rfl ?_
     refine tk 5 (oi := ⟨some 52, _, _, _, _, _⟩) rfl ?_
     refine tk 6 (oi := ⟨some 53, _, _, _, _, _⟩) rfl ?_
     refine tk 7 (oi := ⟨some 54, _, _, _, _, _⟩) rfl ?_
     refine tk 8 (oi := ⟨some 55, _, _, _, _, _⟩) rfl ?_
     refine tk 9 (oi := ⟨some 56, _, _, _, _, _⟩) rfl ?_
     refine wpAnyH_ready (rs := [3, 10]) (by kernel_rfl) (by simp) ?_; refine AllReadyH.cons (o := ⟨some 50, _, _, _, _, _⟩) rfl (fun K hK => ?_) (AllReadyH.cons (o := ⟨some 57, _, _, _, _, _⟩) rfl (fun K hK => ?_) AllReadyH.nil)
     ·go_simp
      refine Ko hK (KE.out _ GD.out) (fun hHeld => ?_)
      clear hK K
      refine rD 10 (o := ⟨some 57, _, _, _, _, _⟩) rfl (fun K hK => ?_)
      go_simp
      refine (pevent_any wd _ p _ _ _ (evb' EP3.out GD.out)).mono ?_
      rintro _ w3 ⟨p3, A3, c3, C3, d3, rfl, h3, l3, l4, hb3⟩
      have EP4 := hid h3
      have GE := hid (bO GD.out hb3)
      clear hb3 h3 x0
      have x0 := (BX.out.below GE.out).cell 1
      simp only [gA, gZ, gC] at x0
      refine Ko hK (KE.out _ GE.out) (fun hHeld => ?_)
      clear hK K
      refine rD 11 (o := ⟨some 58, _, _, _, _, _⟩) rfl (fun K hK => ?_)
      go_simp
      refine (change_any w3 _ _ _ b1 p3 _ _ _ _ _ (E1.out.below GE.out) EP4.out (by omega) SB.out (by omega) (by omega)).mono ?_
      rintro _ w4 ⟨v4, e4, rfl, r4, m4, s4, hb4⟩
      have R4 := hid r4
      have S4 := hid s4
      have GF := hid (bO GE.out hb4)
      obtain ⟨A4, c4, rfl, _⟩ := r4.len
      clear hb4 r4 s4 x0
      have x0 := (BX.out.below GF.out).cell 1
      simp only [gA, gZ, gC] at x0
      have y0 := (BX.out.below GF.out).free 1
      refine Ko hK (KE.out _ GF.out) (fun hHeld => ?_)
      clear hK K
      refine tk 12 (oi := ⟨some 59, _, _, _, _, _⟩) rfl ?_
      refine rD 13 (o := ⟨none, _, _, _, _, _⟩) rfl (fun K hK => ?_)
      go_simp
      have S42 : Sm2 e4 := fun e he => by have := S4.out e he; omega
      have XF := hid (XS.put1 (BX.out.below GF.out) (E0.out.below GF.out) (by omega) SA.out.up (bO B3.out GF.out) hgw R4.out (by omega) S42)
      have nE : gE ≠ gX := by have h1 := BE3.out; have h2 := BX.out; unfold Blk at h1 h2; intro e; rw [e, h2] at h1; cases h1
      have K5 := (BE3.out.below GF.out).far (p := ⟨gX, 1, none⟩) nE (.slice A4 e4.length c4)
      refine hK.out _ _ ⟨K5.cell 0, K5.cell 1, K5.cell 2, K5.cell 3, K5.cell 4, K5.cell 5, K5.cell 6, K5.cell 7, K5.cell 8, K5.cell 9, K5.cell 10, K5.cell 11⟩ (fun hHeld => ?_)
      clear K5
      clear hK K
      (try simp only [Act.put, List.setIfInBounds_toArray, List.set_cons_zero, List.set_cons_succ])
      refine dn ?_
      clear hHeld
      go_wp2_with fail
      go_meet
      case rel => exact XF.out
     ·go_simp
      refine (pevent_any wd _ p _ _ _ (evb' EP3.out GD.out)).mono ?_
      rintro _ w3 ⟨p3, A3, c3, C3, d3, rfl, h3, l3, l4, hb3⟩
      have EP4 := hid h3
      have GE := hid (bO GD.out hb3)
      clear hb3 h3 x0
      have x0 := (BX.out.below GE.out).cell 1
      simp only [gA, gZ, gC] at x0
      refine Ko hK (KE.out _ GE.out) (fun hHeld => ?_)
      clear hK K
      refine rD 3 (o := ⟨some 50, _, _, _, _, _⟩) rfl (fun K hK => ?_)
      go_simp
      refine Ko hK (KE.out _ GE.out) (fun hHeld => ?_)
      clear hK K
      refine rD 11 (o := ⟨some 58, _, _, _, _, _⟩) rfl (fun K hK => ?_)
      go_simp
      refine (change_any w3 _ _ _ b1 p3 _ _ _ _ _ (E1.out.below GE.out) EP4.out (by omega) SB.out (by omega) (by omega)).mono ?_
      rintro _ w4 ⟨v4, e4, rfl, r4, m4, s4, hb4⟩
      have R4 := hid r4
      have S4 := hid s4
      have GF := hid (bO GE.out hb4)
      obtain ⟨A4, c4, rfl, _⟩ := r4.len
      clear hb4 r4 s4 x0
      have x0 := (BX.out.below GF.out).cell 1
      simp only [gA, gZ, gC] at x0
      have y0 := (BX.out.below GF.out).free 1
      refine Ko hK (KE.out _ GF.out) (fun hHeld => ?_)
      clear hK K
      refine tk 12 (oi := ⟨some 59, _, _, _, _, _⟩) rfl ?_
      refine rD 13 (o := ⟨none, _, _, _, _, _⟩) rfl (fun K hK => ?_)
      go_simp
      have S42 : Sm2 e4 := fun e he => by have := S4.out e he; omega
      have XF := hid (XS.put1 (BX.out.below GF.out) (E0.out.below GF.out) (by omega) SA.out.up (bO B3.out GF.out) hgw R4.out (by omega) S42)
      have nE : gE ≠ gX := by have h1 := BE3.out; have h2 := BX.out; unfold Blk at h1 h2; intro e; rw [e, h2] at h1; cases h1
      have K5 := (BE3.out.below GF.out).far (p := ⟨gX, 1, none⟩) nE (.slice A4 e4.length c4)
      refine hK.out _ _ ⟨K5.cell 0, K5.cell 1, K5.cell 2, K5.cell 3, K5.cell 4, K5.cell 5, K5.cell 6, K5.cell 7, K5.cell 8, K5.cell 9, K5.cell 10, K5.cell 11⟩ (fun hHeld => ?_)
      clear K5
      clear hK K
      (try simp only [Act.put, List.setIfInBounds_toArray, List.set_cons_zero, List.set_cons_succ])
      refine dn ?_
      clear hHeld
      go_wp2_with fail
      go_meet
      case rel => exact XF.out
  ·go_wp2_with fail
   refine (events_any W2 _ v8 es E83.out).mono ?_
   rintro _ w3 ⟨v3, e3, S3, rfl, r3, m3, s3, hb3⟩
   have G3 := hid hb3
   have R3 := hid r3.wide
   have S3_ := hid s3.sm2
   obtain ⟨A3, c3, rfl, _⟩ := r3.len
   clear hb3 r3 s3
   go_wp2_with fail
   refine (events_any w3 _ v9 fs (E93.out.below G3.out)).mono ?_
   rintro _ w4 ⟨v4, e4, S4, rfl, r4, m4, s4, hb4⟩
   have G4 := hid (bO G3.out hb4)
   have R4 := hid r4.wide
   have R3b := hid (R3.out.below hb4)
   have S4_ := hid s4.sm2
   obtain ⟨A4, c4, rfl, _⟩ := r4.len
   clear hb4 r4 s4
   have BX4 := hid (BX.out.below G4.out)
   have x0 := BX4.out.cell 0
   have x1 := BX4.out.cell 1
   have y0 := BX4.out.free 0
   have y1 := BX4.out.free 1
   simp only [gA, gZ, gC] at x0 x1
   have b5 := BX4.out.set 0 (.slice A3 e3.length c3)
   simp only [List.setIfInBounds_toArray, List.set_cons_zero] at b5
   have XF : Hid (XS w gX ((w4.setCell ⟨gX, 0, none⟩ (.slice A3 e3.length c3)).setCell ⟨gX, 1, none⟩ (.slice A4 e4.length c4))) := hid (XS.put1 b5 (R3b.out.setX BX4.out 0 _) (by omega) S3_.out (Frm.below (bO B3.out G4.out) ((Frm.refl (· = gX) w4).setg _) (bO B3.out G4.out).size (fun i hi => by rw [hi]; exact hgw)) hgw (R4.out.setX BX4.out 0 _) (by omega) S4_.out)
   clear b5
   go_wp2_with fail
   go_meet
   case rel => exact XF.out
 case rest =>
  clear BX E0 E1 B3 BE3 EP3 E83 E93 SA SB
  obtain ⟨A0, A1, c0, c1, a1, b1, bx, h0, h1, la, lb, sa, sb, hB⟩ := hcut
  have BX := hid bx
  have E0 := hid h0
  have E1 := hid h1
  have SA := hid sa
  have SB := hid sb
  have B3 := hid hB
  obtain ⟨⟨l, at1, sd, ok⟩, hJ⟩ : ∃ q, J a1 b1 = q := ⟨_, rfl⟩
  have JO := hid (J_ok hJ)
  have JJ := hid hJ
  have hlm : l.length ≤ 1000000 := by have := JO.out.1; omega
  have k0 := bx.cell 0
  have k1 := bx.cell 1
  simp only [gA, gZ, gC] at  k0 k1
  clear bx h0 h1 sa sb hB hJ
  go_wp2_with fail
  refine (join_at wc _ _ _ a1 b1 E0.out E1.out la lb SA.out SB.out l at1 sd ok JJ.out).mono ?_
  rintro r w3 ⟨A, cc, D, rfl, hr, hb3⟩
  have NR := hid hr
  have BX3 := hid (BX.out.below hb3)
  have E03 := hid (E0.out.below hb3)
  have E13 := hid (E1.out.below hb3)
  have B4 := hid (bO B3.out hb3)
  clear k0 k1 hr hb3 E0 E1 BX B3
  have k0 := BX3.out.cell 0
  have k1 := BX3.out.cell 1
  simp only [gA, gZ, gC] at  k0 k1
  go_wp2_with fail
  refine (rjoin_at w3 _ _ _ a1 b1 E03.out E13.out la lb l at1 sd ok JJ.out).mono ?_
  rintro r w4 ⟨A', cc', D', rfl, hr, hb4⟩
  have NR' := hid hr
  have NR4 := hid (NR.out.below hb4)
  have BX4 := hid (BX3.out.below hb4)
  have E04 := hid (E03.out.below hb4)
  have E14 := hid (E13.out.below hb4)
  have B5 := hid (bO B4.out hb4)
  have e1 : (ok != ok) = false := by cases ok <;> rfl
  clear k0 k1 hr hb4 E03 E13 BX3 B4 NR
  go_wp2_with fail
  refine (same_at w4 _ _ _ _ l NR4.out NR'.out hlm).mono ?_
  rintro r w5 ⟨rfl, hb5⟩
  have NR5 := hid (NR4.out.below hb5)
  have BX5 := hid (BX4.out.below hb5)
  have E05 := hid (E04.out.below hb5)
  have E15 := hid (E14.out.below hb5)
  have B6 := hid (bO B5.out hb5)
  clear hb5 E04 E14 BX4 B5 NR' NR4
  have KE : Hid (∀ w', Below w5.heap.size w5 w' → (w'.cell? ⟨gX, 0, none⟩ = some (.slice A0 a1.length c0) ∧ w'.cell? ⟨gX, 1, none⟩ = some (.slice A1 b1.length c1))) := hid (fun W hW => ⟨(BX5.out.below hW).cell 0, (BX5.out.below hW).cell 1⟩)
  go_wp2_with fail
  refine wp_region_held_drew (S := fun w' => w'.cell? ⟨gX, 0, none⟩ = some (.slice A0 a1.length c0) ∧ w'.cell? ⟨gX, 1, none⟩ = some (.slice A1 b1.length c1)) (by kernel_rfl) (KE.out _ bD) (fun hHeld => ?_)
  obtain ⟨wd, hwd⟩ := lx (w5.drew)
  have GD : Hid (Below w5.heap.size w5 wd) := hid (by rw [hwd]; exact bD)
  rw [← hwd] at hHeld ⊢
  clear hwd
  cases ok
  ·skip
   refine tk 0 (oi := ⟨some 99, _, _, _, _, _⟩) rfl ?_
   refine tk 1 (oi := ⟨some 100, _, _, _, _, _⟩) rfl ?_
   refine tk 2 (oi := ⟨some 101, _, _, _, _, _⟩) rfl ?_
   refine sk 3 (oi := ⟨some 102, _, _, _, _, _⟩) rfl ?_
   refine sk 4 (oi := ⟨some 103, _, _, _, _, _⟩) rfl ?_
   refine sk 5 (oi := ⟨some 104, _, _, _, _, _⟩) rfl ?_
   refine sk 6 (oi := ⟨some 105, _, _, _, _, _⟩) rfl ?_
   refine sk 7 (oi := ⟨some 106, _, _, _, _, _⟩) rfl ?_
   refine sk 8 (oi := ⟨some 107, _, _, _, _, _⟩) rfl ?_
   refine sk 9 (oi := ⟨some 108, _, _, _, _, _⟩) rfl ?_
   refine sk 10 (oi := ⟨some 109, _, _, _, _, _⟩) rfl ?_
   refine sk 11 (oi := ⟨some 110, _, _, _, _, _⟩) rfl ?_
   refine sk 12 (oi := ⟨some 111, _, _, _, _, _⟩) rfl ?_
   refine sk 13 (oi := ⟨some 112, _, _, _, _, _⟩) rfl ?_
   refine sk 14 (oi := ⟨some 113, _, _, _, _, _⟩) rfl ?_
   refine tk 15 (oi := ⟨some 114, _, _, _, _, _⟩) rfl ?_
   refine tk 16 (oi := ⟨some 115, _, _, _, _, _⟩) rfl ?_
   refine rD 17 (o := ⟨some 116, _, _, _, _, _⟩) rfl (fun K hK => ?_)
   go_simp
   refine (wakes_any wd).mono ?_
   rintro r x6 ⟨rfl, hb2⟩
   have G6 := hid (bO GD.out hb2)
   refine Ko hK (KE.out _ G6.out) (fun hHeld => ?_)
   clear hK K hb2
   refine tk 18 (oi := ⟨some 117, _, _, _, _, _⟩) rfl ?_
   refine tk 19 (oi := ⟨some 20, _, _, _, _, _⟩) rfl ?_
   refine dn ?_
   clear hHeld
   have FINB := hid (bO B6.out G6.out)
   go_wp2_with fail
   go_ret
   exact ⟨rfl, FINB.out⟩
  ·have RR := JO.out.2 rfl
   have SM := hid (right_sm RR SA.out SB.out)
   have R0 := RR.o0
   have R1 := RR.o1
   clear RR
   refine tk 0 (oi := ⟨some 99, _, _, _, _, _⟩) rfl ?_
   refine tk 1 (oi := ⟨some 100, _, _, _, _, _⟩) rfl ?_
   refine tk 2 (oi := ⟨some 101, _, _, _, _, _⟩) rfl ?_
   refine tk 3 (oi := ⟨some 102, _, _, _, _, _⟩) rfl ?_
   refine tk 5 (oi := ⟨some 104, _, _, _, _, _⟩) rfl ?_
   refine tk 6 (oi := ⟨some 105, _, _, _, _, _⟩) rfl ?_
   refine rD 4 (o := ⟨some 103, _, _, _, _, _⟩) rfl (fun K hK => ?_)
   go_simp
   refine (only_any wd D _ l 0 (NR5.out.below GD.out) hlm SM.out).mono ?_
   rintro r x1 ⟨u0, S0, rfl, he1, hb1⟩
   rw [R0] at he1
   obtain ⟨Q0, d0, rfl, _⟩ := RowV.len he1
   have H1 := hid he1
   have G1 := hid (bO GD.out hb1)
   refine Ko hK (KE.out _ G1.out) (fun hHeld => ?_)
   clear hK K he1 hb1
   refine rD 7 (o := ⟨some 106, _, _, _, _, _⟩) rfl (fun K hK => ?_)
   go_simp
   refine (all_at x1 S0 _ _ _ a1 a1 true (by simp) H1.out (E05.out.below G1.out)).mono ?_
   rintro r x2 ⟨rfl, hb2⟩
   have G2 := hid (bO G1.out hb2)
   refine Ko hK (KE.out _ G2.out) (fun hHeld => ?_)
   clear hK K hb2
   refine tk 8 (oi := ⟨some 107, _, _, _, _, _⟩) rfl ?_
   refine tk 9 (oi := ⟨some 108, _, _, _, _, _⟩) rfl ?_
   refine tk 11 (oi := ⟨some 110, _, _, _, _, _⟩) rfl ?_
   refine tk 12 (oi := ⟨some 111, _, _, _, _, _⟩) rfl ?_
   refine rD 10 (o := ⟨some 109, _, _, _, _, _⟩) rfl (fun K hK => ?_)
   go_simp
   refine (only_any x2 D _ l 1 (NR5.out.below G2.out) hlm SM.out).mono ?_
   rintro r x3 ⟨u1, S1, rfl, he1, hb1⟩
   rw [R1] at he1
   obtain ⟨Q1, d1, rfl, _⟩ := RowV.len he1
   have H3 := hid he1
   have G3 := hid (bO G2.out hb1)
   refine Ko hK (KE.out _ G3.out) (fun hHeld => ?_)
   clear hK K he1 hb1
   refine rD 13 (o := ⟨some 112, _, _, _, _, _⟩) rfl (fun K hK => ?_)
   go_simp
   refine (all_at x3 S1 _ _ _ b1 b1 true (by simp) H3.out (E15.out.below G3.out)).mono ?_
   rintro r x4 ⟨rfl, hb2⟩
   have G4 := hid (bO G3.out hb2)
   refine Ko hK (KE.out _ G4.out) (fun hHeld => ?_)
   clear hK K hb2
   refine tk 14 (oi := ⟨some 113, _, _, _, _, _⟩) rfl ?_
   refine tk 15 (oi := ⟨some 114, _, _, _, _, _⟩) rfl ?_
   refine tk 16 (oi := ⟨some 115, _, _, _, _, _⟩) rfl ?_
   refine rD 17 (o := ⟨some 116, _, _, _, _, _⟩) rfl (fun K hK => ?_)
   go_simp
   refine (wakes_any x4).mono ?_
   rintro r x6 ⟨rfl, hb2⟩
   have G6 := hid (bO G4.out hb2)
   refine Ko hK (KE.out _ G6.out) (fun hHeld => ?_)
   clear hK K hb2
   refine tk 18 (oi := ⟨some 117, _, _, _, _, _⟩) rfl ?_
   refine tk 19 (oi := ⟨some 20, _, _, _, _, _⟩) rfl ?_
   refine dn ?_
   clear hHeld
   have FINB := hid (bO B6.out G6.out)
   go_wp2_with fail
   go_ret
   exact ⟨rfl, FINB.out⟩
end
end Go.Proofs.YtdneakejlbabeaaGreat
