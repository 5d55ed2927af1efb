/- Parts of the walk: En, Eb. -/
import Derived.Test.YtdneakejlbabeaaGreatM00
import Derived.Test.YtdneakejlbabeaaGreatM18
import Derived.Test.YtdneakejlbabeaaGreatM03
namespace Go.Proofs.YtdneakejlbabeaaGreat
open Go.RowKit
set_option linter.unusedVariables false
set_option linter.unusedSimpArgs false
section
attribute [local go_sem] run_max2' run_min2' run_max_ run_min_
set_option maxHeartbeats 4000000 in
theorem wrap_any (w : World) (S : Nat → Prop) (v : Value) (l : List Int) (h : BV w S v l) (hl : l.length ≤ 1000000) :
  Calls Tryz.prog 115 #[v] w fun e w' => ∃ v', e = .returned v' ∧ BO w.heap.size w' v' (putN l.length ++ l) ∧ Below w.heap.size w w' := by
 obtain ⟨A, c, rfl, _, _⟩ := h.len
 have H := hid h
 have HI := hid Tryz.info5
 clear h
 go_enter Tryz.func115, Tryz.ntmps115
 go_wp2_with fail
 refine (put_any (l.length : Int) w (by omega) (by omega)).mono ?_
 rintro e w1 ⟨v1, rfl, ho, hb⟩
 have O1 := hid ho
 have B1 := hid hb
 have hpl : (putN (l.length : Int)).length ≤ 4 := by unfold putN; split; simp; split <;> simp
 obtain ⟨A1, c1, rfl⟩ := own_slice' ho.1
 have s1 := hb.size
 clear ho hb
 go_wp2_with (at_builtin; refine wp_app w.heap.size rfl _ _ 25 5 (.int .u8 0) 1 1 rfl Tryz.underlying25 HI.out rfl (by omega) (by omega) rfl rfl O1.out.1 (H.out.below B1.out).sl (by omega) s1 ?_; intro v9 w9 hown hfr hat; have O9 := hid hown; have B9 := hid (Frm.below B1.out hfr s1 (fun g hg => (O1.out.1.lt g hg).1)); obtain ⟨A9, c9, rfl⟩ := own_slice' hown; clear hown hfr hat)
 (try go_wp2_with fail)
 go_ret
 exact ⟨_, rfl, ⟨by rw [u8s_append, List.length_append]; exact O9.out, fun x hx => by
  rcases List.mem_append.1 hx with hx | hx
  ·exact O1.out.2 x hx
  ·exact H.out.byt x hx⟩, B9.out⟩
theorem BV.sub {w : World} {S : Nat → Prop} {A : Option Addr} {c : Nat} {l : List Int} (h : BV w S (.slice A l.length c) l) {a : Nat} (ha : a ≤ l.length) :
  BV w S (.slice (if c = a then A else Option.map (fun x => x.add a) A) (l.length - a) (c - a)) (l.drop a) := by
 have h1 := Sl.sub1 (t := a) (u := l.length) h.sl ha (Nat.le_refl _)
 obtain ⟨A', c', e, g1, g2, g3⟩ := h
 injection e with e1 e2 e3
 subst e1 e3
 have e : (u8s l).drop a = u8s (l.drop a) := by simp [u8s, List.map_drop]
 have hl : (l.drop a).length = l.length - a := List.length_drop ..
 rw [e, List.take_of_length_le (by rw [u8s_length, hl]; exact Nat.le_refl _)] at h1
 refine ⟨_, _, by rw [hl], by rw [hl]; exact h1, fun h0 j hj => ?_, fun x hx => g3 x (List.mem_of_mem_drop hx)⟩
 rw [hl] at h0
 refine g2 (by omega) j ?_
 split at hj
 ·cases A <;> exact hj
 ·cases A with
  | none => cases hj
  | some ad =>
   rw [Option.map_some] at hj
   have hb : (ad.add a).block = ad.block := by unfold Addr.add; split <;> rfl
   rw [← hj]
   show some ad.block = some (ad.add a).block
   rw [hb]
/-- A reader. -/
abbrev RdC (w : World) (g : Nat) (v : Value) (a : Nat) (b : Bool) : Prop := Blk w g #[v, .int .i64 (a : Int), .bool b] 145
theorem RdC.put {w : World} {g : Nat} {v : Value} {a a' : Nat} {b : Bool} {x : Int} (h : RdC w g v a b) (e : x = (a' : Int)) : RdC (w.setCell ⟨g, 1, none⟩ (.int .i64 x)) g v a' b := by
 subst e
 have := h.set 1 (.int .i64 (a' : Int))
 simpa [RdC] using this
def RdR (w : World) (g : Nat) (v : Value) (n a : Nat) (w' : World) : Prop := ∃ (a' : Nat) (b' : Bool), RdC w' g v a' b' ∧ a ≤ a' ∧ a' ≤ n ∧ Frm (· = g) w w'
set_option maxHeartbeats 4000000 in
set_option maxRecDepth 100000 in
theorem rbyte_any (w : World) (S : Nat → Prop) (g : Nat) (v : Value) (l : List Int) (a : Nat) (b : Bool) (h : RdC w g v a b) (hv : BV w S v l) (hS : ∀ j, S j → j ≠ g) (ha : a ≤ l.length) (hl : l.length ≤ 1000000) :
  Calls Tryz.prog 98 #[.pointer (some ⟨g, 0, none⟩)] w fun e w' => ∃ x : Int, e = .returned (.int .u8 x) ∧ 0 ≤ x ∧ x < 256 ∧ RdR w g v l.length a w' := by
 obtain ⟨A, c, rfl, hlc, hcm⟩ := hv.len
 have H := hid h
 have HV := hid hv
 have c0 := h.cell 0
 have c1 := h.cell 1
 have c2 := h.cell 2
 have f1 := h.free 1
 have f2 := h.free 2
 simp only [gA, gZ, gC] at c0 c1 c2
 obtain ⟨n, hn⟩ : ∃ n, l.length = n := ⟨_, rfl⟩
 rw [hn] at hlc hl ha c0 ⊢
 rw [hn] at H
 clear h hv
 cases b
 ·by_cases han : a < n
  ·have a1 : ¬ (n : Int) ≤ (a : Int) := by omega
   have a0 : (0 : Int) ≤ (a : Int) := by omega
   have a2 : (a : Int) < (n : Int) := by omega
   have iw1 : IntKind.i64.wrap ((a : Int) + 1) = (a : Int) + 1 := iX
   have iw2 : IntKind.i64.wrap ((a : Int) + 1 - 1) = (a : Int) := by rw [iX]; omega
   obtain ⟨ad, rfl, d0⟩ := Sl.at_ (hn ▸ HV.out.sl) han
   rw [u8s_at l a (by omega)] at d0
   have hby := HV.out.byt _ (List.getElem_mem (by omega : a < l.length))
   obtain ⟨y, hy⟩ : ∃ y, l[a]'(by omega) = y := ⟨_, rfl⟩
   rw [hy] at d0 hby
   clear hy
   have hS' : Hid (∀ W, Frm (· = g) w W → W.cell? (ad.add a) = some (.int .u8 y)) := hid (fun W k => by
    have hb := World.block_lt_of_cell? w _ d0
    have he : (ad.add a).block = ad.block := by unfold Addr.add; split <;> rfl
    obtain ⟨A', c', e, _, h3, _⟩ := HV.out
    injection e with e1 e2 e3
    rw [← d0]
    refine World.cell?_of_block (k.block _ hb (fun e => hS _ (h3 (by omega) ad.block ?_).1 (he ▸ e)))
    rfl)
   go_enter Tryz.func98, Tryz.ntmps98
   go_wp2_with fail
   go_quiet (fail)
   go_wp2_with fail
   obtain ⟨w2, hw2⟩ := lx ((w.drewN nq).setCell ⟨g, 1, none⟩ (.int .i64 ((a : Int) + 1)))
   rw [← hw2]
   have F2 : Hid (Frm (· = g) w w2) := hid (by rw [hw2]; exact ((Frm.refl (· = g) w).drewN _).setg _)
   have R2 : Hid (RdC w2 g (.slice (some ad) n c) (a + 1) false) := hid (by rw [hw2]; exact RdC.put (H.out.drewN nq) (by omega))
   have e0 := R2.out.cell 0
   have e1 : w2.cell? ⟨g, 1, none⟩ = some (.int .i64 ((a : Int) + 1)) := by simpa using R2.out.cell 1
   have ed := hS'.out w2 F2.out
   simp only [gA, gZ, gC] at e0
   clear hw2 d0
   go_quiet (fail)
   go_wp2_with fail
   go_ret
   exact ⟨y, rfl, hby.1, hby.2, a + 1, false, R2.out.drewN _, by omega, by omega, F2.out.drewN _⟩
  ·have a1 : (n : Int) ≤ (a : Int) := by omega
   go_enter Tryz.func98, Tryz.ntmps98
   go_wp2_with fail
   go_quiet (fail)
   go_wp2_with fail
   go_ret
   exact ⟨0, rfl, by omega, by omega, a, true, by simpa using (H.out.drewN _).set 2 (.bool true), Nat.le_refl _, ha, ((Frm.refl (· = g) w).drewN _).setg _⟩
 ·go_enter Tryz.func98, Tryz.ntmps98
  go_wp2_with fail
  go_quiet (fail)
  go_wp2_with fail
  go_ret
  exact ⟨0, rfl, by omega, by omega, a, true, by simpa using (H.out.drewN _).set 2 (.bool true), Nat.le_refl _, ha, ((Frm.refl (· = g) w).drewN _).setg _⟩
def RNumR (w : World) (g : Nat) (v : Value) (n a : Nat) (e : Ending) (w' : World) : Prop := ∃ x : Int, e = .returned (.int .i64 x) ∧ RdR w g v n a w'
set_option maxHeartbeats 4000000 in
set_option maxRecDepth 100000 in
theorem rnumber_any (w : World) (S : Nat → Prop) (g : Nat) (v : Value) (l : List Int) (a : Nat) (b : Bool) (h : RdC w g v a b) (hv : BV w S v l) (hS : ∀ j, S j → j ≠ g) (ha : a ≤ l.length) (hl : l.length ≤ 1000000) :
  Calls Tryz.prog 99 #[.pointer (some ⟨g, 0, none⟩)] w fun e w' => RNumR w g v l.length a e w' := by
 obtain ⟨A, c, rfl, hlc, hcm⟩ := hv.len
 have H := hid h
 have HV := hid hv
 have SB := hid (BV.sub hv ha)
 obtain ⟨A6, hA6⟩ : ∃ x, (if c = a then A else Option.map (fun x => x.add a) A) = x := ⟨_, rfl⟩
 rw [hA6] at SB
 have c2 := h.cell 2
 have f1 := h.free 1
 have f2 := h.free 2
 have c1 := h.cell 1
 have KE : Hid ((w.drew).cell? ⟨g, 0, none⟩ = some (.slice A l.length c) ∧ w.drew.cell? ⟨g, 1, none⟩ = some (.int .i64 (a : Int))) := hid ⟨h.cell 0, h.cell 1⟩
 simp only [gA, gZ, gC] at c2 c1
 obtain ⟨n, hn⟩ : ∃ n, l.length = n := ⟨_, rfl⟩
 rw [hn] at hlc hl ha KE SB ⊢
 rw [hn] at H
 have a0 : (0 : Int) ≤ (a : Int) := by omega
 have a1 : (a : Int) ≤ (n : Int) := by omega
 have a2 : (n : Int) ≤ (c : Int) := by omega
 clear h hv
 go_enter Tryz.func99, Tryz.ntmps99
 go_wp2_with fail
 refine wp_region_held_drew (S := fun w' => w'.cell? ⟨g, 0, none⟩ = some (.slice A n c) ∧ w'.cell? ⟨g, 1, none⟩ = some (.int .i64 (a : Int))) (by kernel_rfl) KE.out (fun hHeld => ?_)
 refine tk 0 (oi := ⟨some 7, _, _, _, _, _⟩) rfl ?_
 refine tk 1 (oi := ⟨some 8, _, _, _, _, _⟩) rfl ?_
 refine tk 2 (oi := ⟨some 9, _, _, _, _, _⟩) rfl ?_
 refine tk 3 (oi := ⟨some 10, _, _, _, _, _⟩) rfl ?_
 refine tk 4 (oi := ⟨some 11, _, _, _, _, _⟩) rfl ?_
 refine tk 5 (oi := ⟨some 12, _, _, _, _, _⟩) rfl ?_
 refine tk 6 (oi := ⟨some 13, _, _, _, _, _⟩) rfl ?_
 refine tk 7 (oi := ⟨some 14, _, _, _, _, _⟩) rfl ?_
 refine tk 8 (oi := ⟨some 15, _, _, _, _, _⟩) rfl ?_
 refine rD 9 (o := ⟨some 16, _, _, _, _, _⟩) rfl (fun K hK => ?_)
 go_simp
 refine (take_any _ S _ _ (show BV w.drew S _ _ from SB.out)).mono ?_
 rintro e _ ⟨x, sz, q, rfl, hq, rfl⟩
 refine Ko hK KE.out (fun hHeld => ?_)
 clear hK K
 refine tk 10 (oi := ⟨some 6, _, _, _, _, _⟩) rfl ?_
 refine tk 11 (oi := ⟨some 17, _, _, _, _, _⟩) rfl ?_
 refine tk 12 (oi := ⟨some 18, _, _, _, _, _⟩) rfl ?_
 refine tk 13 (oi := ⟨some 19, _, _, _, _, _⟩) rfl ?_
 refine tk 14 (oi := ⟨some 3, _, _, _, _, _⟩) rfl ?_
 refine tk 15 (oi := ⟨some 4, _, _, _, _, _⟩) rfl ?_
 refine tk 16 (oi := ⟨some 5, _, _, _, _, _⟩) rfl ?_
 refine dn ?_
 have HQ := hid hq
 clear hq
 cases b
 ·cases q
  ·go_wp2_with fail
   go_ret
   exact ⟨0, rfl, a, true, Blk.drew (show Blk (w.setCell ⟨g, 2, none⟩ (.bool true)) g #[.slice A n c, .int .i64 (a : Int), .bool true] 145 by simpa using H.out.set 2 (.bool true)), Nat.le_refl _, ha, ((Frm.refl (· = g) w).setg _).drew⟩
  ·obtain ⟨_, _, q1, q2⟩ := HQ.out rfl
   have hlen : (l.drop a).length = n - a := by rw [List.length_drop, hn]
   rw [hlen] at q2
   have iw : IntKind.i64.wrap ((a : Int) + sz) = (a : Int) + sz := iX
   go_wp2_with fail
   go_ret
   have hr : RdC (w.setCell ⟨g, 1, none⟩ (.int .i64 ((a : Int) + sz))) g (.slice A n c) (a + sz.toNat) false := H.out.put (by omega)
   exact ⟨x, rfl, a + sz.toNat, false, hr.drew, by omega, by omega, ((Frm.refl (· = g) w).setg _).drew⟩
 ·go_wp2_with fail
  go_ret
  exact ⟨0, rfl, a, true, Blk.drew (show Blk (w.setCell ⟨g, 2, none⟩ (.bool true)) g #[.slice A n c, .int .i64 (a : Int), .bool true] 145 by simpa using H.out.set 2 (.bool true)), Nat.le_refl _, ha, ((Frm.refl (· = g) w).setg _).drew⟩
def RBytesR (w : World) (g : Nat) (v : Value) (n a : Nat) (e : Ending) (w' : World) : Prop := ∃ (v' : Value) (l' : List Int), e = .returned v' ∧ BO w.heap.size w' v' l' ∧ l'.length ≤ n ∧ RdR w g v n a w'
set_option maxHeartbeats 8000000 in
set_option maxRecDepth 100000 in
theorem rbytes_any (w : World) (S : Nat → Prop) (g : Nat) (v : Value) (l : List Int) (a : Nat) (b : Bool) (most : Int) (h : RdC w g v a b) (hv : BV w S v l) (hS : ∀ j, S j → j ≠ g) (ha : a ≤ l.length) (hl : l.length ≤ 1000000) :
  Calls Tryz.prog 100 #[.pointer (some ⟨g, 0, none⟩), .int .i64 most] w fun e w' => RBytesR w g v l.length a e w' := by
 obtain ⟨A, c, rfl, hlc, hcm⟩ := hv.len
 have H := hid h
 have HV := hid hv
 have HI := hid Tryz.info5
 have SB := hid (BV.sub hv ha)
 obtain ⟨A6, hA6⟩ : ∃ x, (if c = a then A else Option.map (fun x => x.add a) A) = x := ⟨_, rfl⟩
 rw [hA6] at SB
 have gl := h.lt
 have c2 := h.cell 2
 have f1 := h.free 1
 have f2 := h.free 2
 have c1 := h.cell 1
 have c0 := h.cell 0
 have KE : Hid ((w.drew).cell? ⟨g, 0, none⟩ = some (.slice A l.length c) ∧ w.drew.cell? ⟨g, 1, none⟩ = some (.int .i64 (a : Int))) := hid ⟨h.cell 0, h.cell 1⟩
 simp only [gA, gZ, gC] at c2 c1 c0
 obtain ⟨n, hn⟩ : ∃ n, l.length = n := ⟨_, rfl⟩
 rw [hn] at hlc hl ha KE SB c0 ⊢
 rw [hn] at H
 have a0 : (0 : Int) ≤ (a : Int) := by omega
 have a1 : (a : Int) ≤ (n : Int) := by omega
 have a2 : (n : Int) ≤ (c : Int) := by omega
 have iwa : IntKind.i64.wrap ((n : Int) - (a : Int)) = (n : Int) - (a : Int) := iX
 clear h hv
 go_enter Tryz.func100, Tryz.ntmps100
 go_wp2_with fail
 refine wp_region_held_drew (S := fun w' => w'.cell? ⟨g, 0, none⟩ = some (.slice A n c) ∧ w'.cell? ⟨g, 1, none⟩ = some (.int .i64 (a : Int))) (by kernel_rfl) KE.out (fun hHeld => ?_)
 refine tk 0 (oi := ⟨some 10, _, _, _, _, _⟩) rfl ?_
 refine tk 1 (oi := ⟨some 11, _, _, _, _, _⟩) rfl ?_
 refine tk 2 (oi := ⟨some 12, _, _, _, _, _⟩) rfl ?_
 refine tk 3 (oi := ⟨some 13, _, _, _, _, _⟩) rfl ?_
 refine tk 4 (oi := ⟨some 14, _, _, _, _, _⟩) rfl ?_
 refine tk 5 (oi := ⟨some 15, _, _, _, _, _⟩) rfl ?_
 refine tk 6 (oi := ⟨some 16, _, _, _, _, _⟩) rfl ?_
 refine tk 7 (oi := ⟨some 17, _, _, _, _, _⟩) rfl ?_
 refine tk 8 (oi := ⟨some 18, _, _, _, _, _⟩) rfl ?_
 refine rD 9 (o := ⟨some 19, _, _, _, _, _⟩) rfl (fun K hK => ?_)
 go_simp
 refine (take_any _ S _ _ (show BV w.drew S _ _ from SB.out)).mono ?_
 rintro e _ ⟨x, sz, q, rfl, hq, rfl⟩
 refine Ko hK KE.out (fun hHeld => ?_)
 clear hK K
 refine tk 10 (oi := ⟨some 9, _, _, _, _, _⟩) rfl ?_
 refine tk 11 (oi := ⟨some 20, _, _, _, _, _⟩) rfl ?_
 refine tk 12 (oi := ⟨some 21, _, _, _, _, _⟩) rfl ?_
 refine tk 13 (oi := ⟨some 22, _, _, _, _, _⟩) rfl ?_
 refine tk 14 (oi := ⟨some 5, _, _, _, _, _⟩) rfl ?_
 refine tk 15 (oi := ⟨some 6, _, _, _, _, _⟩) rfl ?_
 refine tk 16 (oi := ⟨some 7, _, _, _, _, _⟩) rfl ?_
 refine dn ?_
 have HQ := hid hq
 have NO : Hid (∀ m, RBytesR w g (.slice A n c) n a (.returned (.slice none 0 0)) ((w.drewN m).setCell ⟨g, 2, none⟩ (.bool true))) := hid (fun m => ⟨_, [], rfl, BO.nil _ _, Nat.zero_le _, a, true, by
  have := (H.out.drewN m).set 2 (.bool true)
  show Blk _ _ _ _
  simpa using this, Nat.le_refl _, ha, ((Frm.refl (· = g) w).drewN m).setg _⟩)
 clear hq
 cases b
 ·cases q
  ·go_wp2_with fail
   go_quiet (fail)
   go_wp2_with fail
   go_ret
   exact NO.out _
  ·obtain ⟨x0, x1, q1, q2⟩ := HQ.out rfl
   have hlen : (l.drop a).length = n - a := by rw [List.length_drop, hn]
   rw [hlen] at q2
   have iws : IntKind.i64.wrap ((n : Int) - (a : Int) - sz) = (n : Int) - (a : Int) - sz := iX
   rcases Int.lt_or_le most x with c3 | c3
   ·go_wp2_with fail
    go_quiet (fail)
    go_wp2_with fail
    go_ret
    exact NO.out _
   ·rcases Int.lt_or_le ((n : Int) - (a : Int) - sz) x with c4 | c4
    ·go_wp2_with fail
     go_quiet (fail)
     go_wp2_with fail
     go_ret
     exact NO.out _
    ·go_wp2_with fail
     go_quiet (fail)
     go_wp2_with fail
     obtain ⟨w2, hw2⟩ := lx (w.drew.drewN nq)
     rw [← hw2]
     have H2 : Hid (RdC w2 g (.slice A n c) a false) := hid (by rw [hw2]; exact H.out.drew.drewN _)
     have V2 : Hid (BV w2 S (.slice A l.length c) l) := hid (by rw [hw2]; exact HV.out)
     have F2 : Hid (Frm (· = g) w w2 ∧ Below w.heap.size w w2) := hid (by rw [hw2]; exact ⟨((Frm.refl _ _).drew).drewN _, below_drewN (Below.refl _ _).drew _⟩)
     clear hw2
     obtain ⟨xn, rfl⟩ : ∃ xn : Nat, x = xn := ⟨x.toNat, by omega⟩
     obtain ⟨zn, rfl⟩ : ∃ zn : Nat, sz = zn := ⟨sz.toNat, by omega⟩
     obtain ⟨p, hp⟩ : ∃ p : Nat, a + zn = p := ⟨_, rfl⟩
     obtain ⟨r, hr⟩ : ∃ r : Nat, p + xn = r := ⟨_, rfl⟩
     have iw1 : IntKind.i64.wrap ((a : Int) + (zn : Int)) = (p : Int) := by rw [iX]; omega
     have iw2 : IntKind.i64.wrap ((p : Int) + (xn : Int)) = (r : Int) := by rw [iX]; omega
     have iw3 : IntKind.i64.wrap ((zn : Int) + (xn : Int)) = (zn : Int) + (xn : Int) := iX
     have iw4 : IntKind.i64.wrap ((a : Int) + ((zn : Int) + (xn : Int))) = (r : Int) := by rw [iX]; omega
     have p0 : (0 : Int) ≤ (p : Int) := by omega
     have p1 : (p : Int) ≤ (r : Int) := by omega
     have p2 : (r : Int) ≤ (c : Int) := by omega
     have K2 : Hid (∀ W, Below w2.heap.size w2 W → W.cell? ⟨g, 0, none⟩ = some (.slice A n c) ∧ W.cell? ⟨g, 1, none⟩ = some (.int .i64 (a : Int))) := hid (fun W hW => ⟨(H2.out.below hW).cell 0, (H2.out.below hW).cell 1⟩)
     have G : Hid (Below w2.heap.size w2 w2.drew) := hid (Below.refl _ _).drew
     have HS : Hid (Sl w2.drew 1 _ (r - p) ((u8s l).drop p |>.take (r - p))) := hid (Sl.sub1 (t := p) (u := r) V2.out.sl (by omega) (by omega))
     obtain ⟨A7, hA7⟩ : ∃ x, (if c = p then A else Option.map (fun x => x.add p) A) = x := ⟨_, rfl⟩
     rw [hA7] at HS
     have sz2 : r - p ≤ 1000000 := by omega
     refine wp_region_held_drew (S := fun w' => w'.cell? ⟨g, 0, none⟩ = some (.slice A n c) ∧ w'.cell? ⟨g, 1, none⟩ = some (.int .i64 (a : Int))) (by kernel_rfl) (K2.out _ G.out) (fun hHeld => ?_)
     refine tk 0 (oi := ⟨some 55, _, _, _, _, _⟩) rfl ?_
     refine tk 1 (oi := ⟨some 56, _, _, _, _, _⟩) rfl ?_
     refine tk 2 (oi := ⟨some 57, _, _, _, _, _⟩) rfl ?_
     refine tk 3 (oi := ⟨some 58, _, _, _, _, _⟩) rfl ?_
     refine tk 4 (oi := ⟨some 59, _, _, _, _, _⟩) rfl ?_
     refine tk 5 (oi := ⟨some 60, _, _, _, _, _⟩) rfl ?_
     refine tk 6 (oi := ⟨some 61, _, _, _, _, _⟩) rfl ?_
     refine tk 7 (oi := ⟨some 62, _, _, _, _, _⟩) rfl ?_
     refine tk 8 (oi := ⟨some 63, _, _, _, _, _⟩) rfl ?_
     refine tk 9 (oi := ⟨some 64, _, _, _, _, _⟩) rfl ?_
     refine tk 10 (oi := ⟨some 65, _, _, _, _, _⟩) rfl ?_
     refine tk 11 (oi := ⟨some 66, _, _, _, _, _⟩) rfl ?_
     refine tk 12 (oi := ⟨some 67, _, _, _, _, _⟩) rfl ?_
     refine tk 13 (oi := ⟨some 68, _, _, _, _, _⟩) rfl ?_
     refine tk 14 (oi := ⟨some 69, _, _, _, _, _⟩) rfl ?_
     refine tk 15 (oi := ⟨some 70, _, _, _, _, _⟩) rfl ?_
     refine tk 16 (oi := ⟨some 71, _, _, _, _, _⟩) rfl ?_
     refine tk 17 (oi := ⟨some 72, _, _, _, _, _⟩) rfl ?_
     refine tk 18 (oi := ⟨some 73, _, _, _, _, _⟩) rfl ?_
     refine rD 19 (o := ⟨some 74, _, _, _, _, _⟩) rfl (fun K hK => ?_)
     refine step_app (v := .slice none 0 0) w2.heap.size (by rfl) _ _ 25 5 (.int .u8 0) 1 1 (by rfl) Tryz.underlying25 HI.out rfl (by omega) (by omega) (by rfl) (by rfl) (World.ownsRow_nil _ _ _ _) HS.out (by omega) G.out.size ?_
     intro v7 w7 hown hfr hat
     simp only [Nat.zero_add, List.nil_append] at hown
     have B7 : Hid (Below w2.heap.size w2 w7) := hid (Frm.below G.out hfr G.out.size (fun g hg => by cases hg))
     have O7 := hid hown
     obtain ⟨A8, c8, rfl⟩ := own_slice' hown
     clear hown hfr hat
     refine Ko hK (K2.out _ B7.out) (fun hHeld => ?_)
     clear hK K
     refine tk 20 (oi := ⟨some 8, _, _, _, _, _⟩) rfl ?_
     refine dn ?_
     have e1 := (K2.out _ B7.out).2
     have f1 := (H2.out.below B7.out).free 1
     go_wp2_with fail
     go_ret
     have hlen : ((l.drop p).take (r - p)).length = r - p := by rw [List.length_take, List.length_drop]; omega
     have hu : u8s ((l.drop p).take (r - p)) = ((u8s l).drop p).take (r - p) := by simp [u8s, List.map_take, List.map_drop]
     refine ⟨_, (l.drop p).take (r - p), rfl, ⟨?_, fun x hx => HV.out.byt x (List.mem_of_mem_drop (List.mem_of_mem_take hx))⟩, by rw [hlen]; omega, r, false, RdC.put (H2.out.below B7.out) (by omega), by omega, by omega, (F2.out.1.trans (Frm.of_below B7.out)).setg _⟩
     rw [hlen, hu]
     exact own_base (own_frm O7.out ((Frm.refl (· = g) w7).setg (i := 1) _) (fun j hj e => by have := (O7.out.lt j hj).1; have := F2.out.2.size; omega)) F2.out.2.size
 ·go_wp2_with fail
  go_quiet (fail)
  go_wp2_with fail
  go_ret
  exact NO.out _
end

section
attribute [local go_sem] run_max2' run_min2' run_max_ run_min_
/-- A packet that may be. -/
structure RightP (p : Pk) (n : Nat) : Prop where
 kind : 1 ≤ p.kind ∧ p.kind ≤ 4
 path : 0 ≤ p.path ∧ p.path ≤ 2
 number : 0 ≤ p.number ∧ p.number ≤ 65535
 of1 : p.kind = 2 ∨ p.kind = 4 → 0 ≤ p.of_ ∧ p.of_ ≤ 65535
 of0 : ¬ (p.kind = 2 ∨ p.kind = 4) → p.of_ = 0
 data1 : p.kind = 3 → 0 ≤ p.from_ ∧ p.from_ ≤ 4096 ∧ n ≤ 64 ∧ p.from_ + n ≤ 4096
 data0 : ¬ p.kind = 3 → p.from_ = 0 ∧ n = 0 ∧ p.fin = false
 ack1 : p.kind = 4 → 0 ≤ p.seen ∧ p.seen ≤ 4097 ∧ 0 ≤ p.limit ∧ p.limit ≤ 4496
 ack0 : ¬ p.kind = 4 → p.seen = 0 ∧ p.limit = 0
theorem between_ex (n a b : Int) (w : World) : Calls Tryz.prog 116 #[.int .i64 n, .int .i64 a, .int .i64 b] w fun e w' => ∃ q : Bool, e = .returned (.bool q) ∧ ((q = true ∧ a ≤ n ∧ n ≤ b) ∨ (q = false ∧ ¬ (a ≤ n ∧ n ≤ b))) ∧ w = w' := by
 refine (between_any n a b w).mono ?_
 rintro e _ ⟨rfl, rfl⟩
 by_cases h : a ≤ n ∧ n ≤ b
 ·exact ⟨_, rfl, .inl ⟨decide_eq_true h, h⟩, rfl⟩
 ·exact ⟨_, rfl, .inr ⟨decide_eq_false h, h⟩, rfl⟩
def RightR (p : Pk) (n : Nat) (w : World) (e : Ending) (w' : World) : Prop := ∃ b, e = .returned (.bool b) ∧ (b = true → RightP p n) ∧ Below w.heap.size w w'
set_option maxHeartbeats 16000000 in
set_option maxRecDepth 100000 in
theorem right_any (w : World) (p : Pk) (A : Option Addr) (n c : Nat) (hn : n ≤ 100000000) : Calls Tryz.prog 102 #[pagg p (.slice A n c)] w fun e w' => RightR p n w e w' := by
 obtain ⟨k, pa, nu, of, fr, da, fin, se, li⟩ := p
 obtain ⟨z, hz⟩ : ∃ z, IntKind.i64.wrap (fr + (n : Int)) = z := ⟨_, rfl⟩
 have hn0 : (0 : Int) < (n : Int) ∨ n = 0 := by omega
 have hzz : z = fr + (n : Int) ∨ fr < 0 ∨ 4096 < fr ∨ 64 < n := by
  by_cases h : 0 ≤ fr ∧ fr ≤ 4096
  ·exact .inl (by rw [← hz]; exact iX)
  ·omega
 have KK : k = 1 ∨ k = 2 ∨ k = 3 ∨ k = 4 ∨ ¬ (1 ≤ k ∧ k ≤ 4) := by omega
 dsimp only [pagg] at *
 rcases KK with rfl | rfl | rfl | rfl | hk
 all_goals
  go_enter Tryz.func102, Tryz.ntmps102
  iterate 8
   all_goals (try go_wp2_with fail)
   all_goals (try (go_at_call 116; refine (between_ex _ _ _ _).mono ?_; rintro e _ ⟨q, rfl, ⟨rfl, h1, h2⟩ | ⟨rfl, h3⟩, rfl⟩))
   all_goals (try go_quiet (fail))
  all_goals first
   | (exfalso; omega)
   | (
    go_ret
    refine ⟨_, rfl, fun hb => ?_, by first | exact below_drewN ((Below.refl w.heap.size w).alloc (Nat.le_refl _) _) _ | exact (Below.refl w.heap.size w).alloc (Nat.le_refl _) _⟩
    first
     | (exact absurd hb (by decide))
     | (constructor <;> first | omega | (simp_all; done) | (simp_all; omega)))
end
end Go.Proofs.YtdneakejlbabeaaGreat
