/- Parts of the walk: Jn. -/
import Derived.Test.YtdneakejlbabeaaGreatM00
import Derived.Test.YtdneakejlbabeaaGreatM26
import Derived.Test.YtdneakejlbabeaaGreatM19
namespace Go.Proofs.YtdneakejlbabeaaGreat
open Go.RowKit
set_option linter.unusedVariables false
set_option linter.unusedSimpArgs false
section
def MayR (x : EndV) (p : Pk) (w : World) (e : Ending) (w' : World) : Prop := ∃ q : Bool, e = .returned (.bool q) ∧ (q = true → RightP p p.data.length ∧ ∃ (i : Nat) (pv : PathV), p.path = (i : Int) ∧ x.ps[i]? = some pv) ∧ Below w.heap.size w w'
set_option maxHeartbeats 16000000 in
set_option maxRecDepth 100000 in
theorem emay_any (o : Nat → Nat) (k B : Nat) (w : World) (ge : Nat) (x : EndV) (p : Pk) (A : Option Addr) (c : Nat) (h : EndS o k B w ge x) (hn : p.data.length ≤ 1000000) :
  Calls Tryz.prog 73 #[.pointer (some ⟨ge, 0, none⟩), pagg p (.slice A p.data.length c)] w fun e w' => MayR x p w e w' := by
 have H := hid h
 have np := h.np
 have gl := h.blk.lt
 obtain ⟨w0, hw0⟩ := lx (w.alloc (.cells #[.int .i64 p.kind, .int .i64 p.path, .int .i64 p.number, .int .i64 p.of_, .int .i64 p.from_, .slice A p.data.length c, .bool p.fin, .int .i64 p.seen, .int .i64 p.limit] 27))
 obtain ⟨gb, hgb⟩ := lx (w.heap.size)
 have B0 : Hid (Below w.heap.size w w0) := hid (by rw [hw0]; exact ba)
 have BX : Hid (Blk w0 gb (pcells p (.slice A p.data.length c)).toArray 27) := hid (by rw [hw0, hgb]; exact Blk.new _ _ _)
 have X0 := hid (h.below B0.out)
 clear h
 by_cases hr : 0 ≤ p.path ∧ p.path < (x.ps.length : Int)
 ·obtain ⟨r0, r1⟩ := hr
  obtain ⟨i, hi⟩ : ∃ i : Nat, p.path = (i : Int) := ⟨p.path.toNat, by omega⟩
  have hil : i < x.ps.length := by omega
  obtain ⟨q, hq⟩ : ∃ q, x.ps[i]? = some q := ⟨_, List.getElem?_eq_getElem hil⟩
  obtain ⟨ad, cP, hvP, _, _, _⟩ := X0.out.pth hq
  have KE : Hid (∀ W, Below w0.heap.size w0 W → (W.cell? ⟨gb, 0, none⟩ = some (.int .i64 p.kind) ∧ W.cell? ⟨gb, 1, none⟩ = some (.int .i64 (i : Int)) ∧ W.cell? ⟨gb, 2, none⟩ = some (.int .i64 p.number) ∧ W.cell? ⟨gb, 3, none⟩ = some (.int .i64 p.of_) ∧ W.cell? ⟨gb, 4, none⟩ = some (.int .i64 p.from_) ∧ W.cell? ⟨gb, 5, none⟩ = some (.slice A p.data.length c) ∧ W.cell? ⟨gb, 6, none⟩ = some (.bool p.fin) ∧ W.cell? ⟨gb, 7, none⟩ = some (.int .i64 p.seen) ∧ W.cell? ⟨gb, 8, none⟩ = some (.int .i64 p.limit) ∧ W.cell? ⟨ge, 9, none⟩ = some (.slice (some ad) x.ps.length cP) ∧ W.cell? (ad.add i) = some (.pointer (some ⟨q.gp, 0, none⟩)) ∧ W.cell? ⟨q.gp, 0, none⟩ = some (.bool q.u) ∧ W.cell? ⟨q.gp, 1, none⟩ = some (.bool q.j) ∧ W.cell? ⟨q.gp, 3, none⟩ = some (.int .i64 q.s) ∧ W.cell? ⟨ge, 13, none⟩ = some (.int .i64 x.sent) ∧ W.cell? ⟨ge, 7, none⟩ = some (.int .i64 x.side))) := hid (fun W hW => by
   obtain ⟨ad', cP', hvP', c9, d, u0, u1, u3, f0, f1⟩ := (X0.out.below hW).pth hq
   have hne : ad' = ad ∧ cP' = cP := by
    rw [hvP] at hvP'
    injection hvP' with e1 e2 e3
    injection e1 with e1
    exact ⟨e1.symm, e3.symm⟩
   obtain ⟨rfl, rfl⟩ := hne
   obtain ⟨k0, k1, k2, k3, k4, k5, k6, k7, k8⟩ := PB.of (BX.out.below hW)
   rw [hi] at k1
   have k13 := (X0.out.below hW).blk.cell 13
   have k7' := (X0.out.below hW).blk.cell 7
   simp only [gA, gZ, gC] at k13 k7'
   exact ⟨k0, k1, k2, k3, k4, k5, k6, k7, k8, c9, d, u0, u1, u3, k13, k7'⟩)
  have YES : Hid (RightP p p.data.length → (RightP p p.data.length ∧ ∃ (i : Nat) (pv : PathV), p.path = (i : Int) ∧ x.ps[i]? = some pv)) := hid (fun h => ⟨h, i, q, hi, hq⟩)
  have hw0' : w.alloc (.cells #[.int .i64 p.kind, .int .i64 (i : Int), .int .i64 p.number, .int .i64 p.of_, .int .i64 p.from_, .slice A p.data.length c, .bool p.fin, .int .i64 p.seen, .int .i64 p.limit] 27) = w0 := by rw [hw0, hi]
  have PP : Hid (pagg p (.slice A p.data.length c) = .agg #[.int .i64 p.kind, .int .i64 (i : Int), .int .i64 p.number, .int .i64 p.of_, .int .i64 p.from_, .slice A p.data.length c, .bool p.fin, .int .i64 p.seen, .int .i64 p.limit]) := hid (by rw [← hi])
  have i0 : (0 : Int) ≤ (i : Int) := by omega
  have i1 : (i : Int) < (x.ps.length : Int) := by omega
  have hni : ¬ x.ps.length ≤ i := by omega
  have hd1 : decide (x.ps.length ≤ i) = false := decide_eq_false hni
  have hd2 : decide ((x.ps.length : Int) ≤ (i : Int)) = false := decide_eq_false (by omega)
  have RI : Hid (∀ W, Calls Tryz.prog 102 #[.agg #[.int .i64 p.kind, .int .i64 (i : Int), .int .i64 p.number, .int .i64 p.of_, .int .i64 p.from_, .slice A p.data.length c, .bool p.fin, .int .i64 p.seen, .int .i64 p.limit]] W fun e w' => RightR p p.data.length W e w') := hid (fun W => PP.out ▸ right_any W p A p.data.length c (by omega))
  rw [PP.out]
  have HI := hid hi
  clear hw0 r0 r1 hi hq hvP PP
  go_enter Tryz.func73, Tryz.ntmps73
  go_wp2_with fail
  rw [← hgb]
  have HGB := hid hgb
  clear hgb hw0'
  refine wp_region_held_drew (S := fun w' => w'.cell? ⟨gb, 0, none⟩ = some (.int .i64 p.kind) ∧ w'.cell? ⟨gb, 1, none⟩ = some (.int .i64 (i : Int)) ∧ w'.cell? ⟨gb, 2, none⟩ = some (.int .i64 p.number) ∧ w'.cell? ⟨gb, 3, none⟩ = some (.int .i64 p.of_) ∧ w'.cell? ⟨gb, 4, none⟩ = some (.int .i64 p.from_) ∧ w'.cell? ⟨gb, 5, none⟩ = some (.slice A p.data.length c) ∧ w'.cell? ⟨gb, 6, none⟩ = some (.bool p.fin) ∧ w'.cell? ⟨gb, 7, none⟩ = some (.int .i64 p.seen) ∧ w'.cell? ⟨gb, 8, none⟩ = some (.int .i64 p.limit) ∧ w'.cell? ⟨ge, 9, none⟩ = some (.slice (some ad) x.ps.length cP) ∧ w'.cell? (ad.add i) = some (.pointer (some ⟨q.gp, 0, none⟩)) ∧ w'.cell? ⟨q.gp, 0, none⟩ = some (.bool q.u) ∧ w'.cell? ⟨q.gp, 1, none⟩ = some (.bool q.j) ∧ w'.cell? ⟨q.gp, 3, none⟩ = some (.int .i64 q.s) ∧ w'.cell? ⟨ge, 13, none⟩ = some (.int .i64 x.sent) ∧ w'.cell? ⟨ge, 7, none⟩ = some (.int .i64 x.side)) (by kernel_rfl) (KE.out _ bD) (fun hHeld => ?_)
  obtain ⟨wd, hwd⟩ := lx (w0.drew)
  have GD : Hid (Below w0.heap.size w0 wd) := hid (by rw [hwd]; exact bD)
  rw [← hwd] at hHeld ⊢
  clear hwd
  refine tk 0 (oi := ⟨some 6, _, _, _, _, _⟩) rfl ?_
  refine rD 1 (o := ⟨some 7, _, _, _, _, _⟩) rfl (fun K hK => ?_)
  go_simp
  refine (RI.out wd).mono ?_
  rintro e w1 ⟨b, rfl, hrp, hb1⟩
  have G1 := hid (bO GD.out hb1)
  have RP := hid hrp
  clear hb1 hrp
  refine Ko hK (KE.out _ G1.out) (fun hHeld => ?_)
  clear hK K
  refine tk 2 (oi := ⟨some 8, _, _, _, _, _⟩) rfl ?_
  refine tk 3 (oi := ⟨some 9, _, _, _, _, _⟩) rfl ?_
  have BB := hid (bO B0.out G1.out)
  cases b
  ·skip
   refine sk 4 (oi := ⟨some 10, _, _, _, _, _⟩) rfl ?_
   refine sk 5 (oi := ⟨some 11, _, _, _, _, _⟩) rfl ?_
   refine sk 6 (oi := ⟨some 12, _, _, _, _, _⟩) rfl ?_
   refine sk 7 (oi := ⟨some 13, _, _, _, _, _⟩) rfl ?_
   refine sk 8 (oi := ⟨some 14, _, _, _, _, _⟩) rfl ?_
   refine sk 9 (oi := ⟨some 15, _, _, _, _, _⟩) rfl ?_
   refine sk 10 (oi := ⟨some 16, _, _, _, _, _⟩) rfl ?_
   refine sk 11 (oi := ⟨some 17, _, _, _, _, _⟩) rfl ?_
   refine tk 12 (oi := ⟨some 18, _, _, _, _, _⟩) rfl ?_
   refine tk 13 (oi := ⟨some 19, _, _, _, _, _⟩) rfl ?_
   refine sk 14 (oi := ⟨some 20, _, _, _, _, _⟩) rfl ?_
   refine sk 15 (oi := ⟨some 21, _, _, _, _, _⟩) rfl ?_
   refine sk 16 (oi := ⟨some 22, _, _, _, _, _⟩) rfl ?_
   refine sk 17 (oi := ⟨some 23, _, _, _, _, _⟩) rfl ?_
   refine sk 18 (oi := ⟨some 24, _, _, _, _, _⟩) rfl ?_
   refine sk 19 (oi := ⟨some 25, _, _, _, _, _⟩) rfl ?_
   refine sk 20 (oi := ⟨some 26, _, _, _, _, _⟩) rfl ?_
   refine sk 21 (oi := ⟨some 27, _, _, _, _, _⟩) rfl ?_
   refine sk 22 (oi := ⟨some 28, _, _, _, _, _⟩) rfl ?_
   refine sk 23 (oi := ⟨some 29, _, _, _, _, _⟩) rfl ?_
   refine sk 24 (oi := ⟨some 30, _, _, _, _, _⟩) rfl ?_
   refine sk 25 (oi := ⟨some 31, _, _, _, _, _⟩) rfl ?_
   refine tk 26 (oi := ⟨some 32, _, _, _, _, _⟩) rfl ?_
   refine dn ?_
   go_wp2_with fail
   go_ret
   exact ⟨_, rfl, (fun h => by cases h), BB.out⟩
  ·skip
   refine tk 4 (oi := ⟨some 10, _, _, _, _, _⟩) rfl ?_
   refine tk 5 (oi := ⟨some 11, _, _, _, _, _⟩) rfl ?_
   refine tk 6 (oi := ⟨some 12, _, _, _, _, _⟩) rfl ?_
   refine tk 7 (oi := ⟨some 13, _, _, _, _, _⟩) rfl ?_
   refine tk 8 (oi := ⟨some 14, _, _, _, _, _⟩) rfl ?_
   refine tk 9 (oi := ⟨some 15, _, _, _, _, _⟩) rfl ?_
   refine tk 10 (oi := ⟨some 16, _, _, _, _, _⟩) rfl ?_
   refine tk 11 (oi := ⟨some 17, _, _, _, _, _⟩) rfl ?_
   refine tk 12 (oi := ⟨some 18, _, _, _, _, _⟩) rfl ?_
   refine tk 13 (oi := ⟨some 19, _, _, _, _, _⟩) rfl ?_
   refine tk 14 (oi := ⟨some 20, _, _, _, _, _⟩) rfl ?_
   refine tk 15 (oi := ⟨some 21, _, _, _, _, _⟩) rfl ?_
   refine tk 16 (oi := ⟨some 22, _, _, _, _, _⟩) rfl ?_
   refine tk 17 (oi := ⟨some 23, _, _, _, _, _⟩) rfl ?_
   refine tk 18 (oi := ⟨some 24, _, _, _, _, _⟩) rfl ?_
   refine tk 19 (oi := ⟨some 25, _, _, _, _, _⟩) rfl ?_
   refine tk 20 (oi := ⟨some 26, _, _, _, _, _⟩) rfl ?_
   refine tk 21 (oi := ⟨some 27, _, _, _, _, _⟩) rfl ?_
   refine tk 22 (oi := ⟨some 28, _, _, _, _, _⟩) rfl ?_
   refine tk 23 (oi := ⟨some 29, _, _, _, _, _⟩) rfl ?_
   refine tk 24 (oi := ⟨some 30, _, _, _, _, _⟩) rfl ?_
   refine tk 25 (oi := ⟨some 31, _, _, _, _, _⟩) rfl ?_
   refine tk 26 (oi := ⟨some 32, _, _, _, _, _⟩) rfl ?_
   refine dn ?_
   have RR := hid (YES.out (RP.out rfl))
   obtain ⟨k0, k1, k2, k3, k4, k5, k6, k7, k8, c9, d, u0, u1, u3, k13, k7'⟩ := KE.out _ G1.out
   clear hHeld
   rcases hu : q.u with _ | _
   ·rw [hu] at u0
    go_wp2_with fail
    go_ret
    exact ⟨_, rfl, (fun _ => RR.out), BB.out⟩
   ·rw [hu] at u0
    obtain ⟨bs1, hbs1⟩ : ∃ b, (x.side == 1) = b := ⟨_, rfl⟩
    obtain ⟨bs0, hbs0⟩ : ∃ b, (x.side == 0) = b := ⟨_, rfl⟩
    obtain ⟨bo, hbo⟩ : ∃ b, decide (p.of_ < q.s) = b := ⟨_, rfl⟩
    obtain ⟨be, hbe⟩ : ∃ b, decide (p.seen ≤ x.sent) = b := ⟨_, rfl⟩
    rcases (by have := RR.out.1.kind; omega : p.kind = 1 ∨ p.kind = 2 ∨ p.kind = 3 ∨ p.kind = 4) with hk | hk | hk | hk
    ·rw [hk] at k0
     clear hk
     go_wp2_with fail
     go_quiet (fail)
     go_wp2_with fail
     go_ret
     exact ⟨_, rfl, (fun _ => RR.out), by first | exact BB.out | exact below_drewN BB.out _ | exact below_drewN (below_drewN BB.out _) _⟩
    ·rw [hk] at k0
     clear hk
     cases bs0 <;> cases bo
     all_goals
      go_wp2_with fail
      go_quiet (fail)
      go_wp2_with fail
      go_quiet (fail)
      go_wp2_with fail
      go_ret
      exact ⟨_, rfl, (fun _ => RR.out), by first | exact BB.out | exact below_drewN BB.out _ | exact below_drewN (below_drewN BB.out _) _⟩
    ·rw [hk] at k0
     clear hk
     go_wp2_with fail
     go_quiet (fail)
     go_wp2_with fail
     go_ret
     exact ⟨_, rfl, (fun _ => RR.out), by first | exact BB.out | exact below_drewN BB.out _ | exact below_drewN (below_drewN BB.out _) _⟩
    ·rw [hk] at k0
     clear hk
     cases bo <;> cases be
     all_goals
      go_wp2_with fail
      go_quiet (fail)
      go_wp2_with fail
      go_quiet (fail)
      go_wp2_with fail
      go_ret
      exact ⟨_, rfl, (fun _ => RR.out), by first | exact BB.out | exact below_drewN BB.out _ | exact below_drewN (below_drewN BB.out _) _⟩
 ·obtain ⟨AP, cP, hvP, _, _⟩ := X0.out.path
  have KE : Hid (∀ W, Below w0.heap.size w0 W → (W.cell? ⟨gb, 0, none⟩ = some (.int .i64 p.kind) ∧ W.cell? ⟨gb, 1, none⟩ = some (.int .i64 p.path) ∧ W.cell? ⟨gb, 2, none⟩ = some (.int .i64 p.number) ∧ W.cell? ⟨gb, 3, none⟩ = some (.int .i64 p.of_) ∧ W.cell? ⟨gb, 4, none⟩ = some (.int .i64 p.from_) ∧ W.cell? ⟨gb, 5, none⟩ = some (.slice A p.data.length c) ∧ W.cell? ⟨gb, 6, none⟩ = some (.bool p.fin) ∧ W.cell? ⟨gb, 7, none⟩ = some (.int .i64 p.seen) ∧ W.cell? ⟨gb, 8, none⟩ = some (.int .i64 p.limit) ∧ W.cell? ⟨ge, 9, none⟩ = some (.slice AP x.ps.length cP))) := hid (fun W hW => by
   obtain ⟨k0, k1, k2, k3, k4, k5, k6, k7, k8⟩ := PB.of (BX.out.below hW)
   have c9 := (X0.out.below hW).blk.cell 9
   simp only [gA, gZ, gC] at c9
   rw [hvP] at c9
   exact ⟨k0, k1, k2, k3, k4, k5, k6, k7, k8, c9⟩)
  have hw0' := hw0.symm
  have RI : Hid (∀ W, Calls Tryz.prog 102 #[pagg p (.slice A p.data.length c)] W fun e w' => RightR p p.data.length W e w') := hid (fun W => right_any W p A p.data.length c (by omega))
  clear hw0 hvP
  go_enter Tryz.func73, Tryz.ntmps73
  go_wp2_with fail
  rw [← hgb]
  have HGB := hid hgb
  clear hgb hw0'
  refine wp_region_held_drew (S := fun w' => w'.cell? ⟨gb, 0, none⟩ = some (.int .i64 p.kind) ∧ w'.cell? ⟨gb, 1, none⟩ = some (.int .i64 p.path) ∧ w'.cell? ⟨gb, 2, none⟩ = some (.int .i64 p.number) ∧ w'.cell? ⟨gb, 3, none⟩ = some (.int .i64 p.of_) ∧ w'.cell? ⟨gb, 4, none⟩ = some (.int .i64 p.from_) ∧ w'.cell? ⟨gb, 5, none⟩ = some (.slice A p.data.length c) ∧ w'.cell? ⟨gb, 6, none⟩ = some (.bool p.fin) ∧ w'.cell? ⟨gb, 7, none⟩ = some (.int .i64 p.seen) ∧ w'.cell? ⟨gb, 8, none⟩ = some (.int .i64 p.limit) ∧ w'.cell? ⟨ge, 9, none⟩ = some (.slice AP x.ps.length cP)) (by kernel_rfl) (KE.out _ bD) (fun hHeld => ?_)
  obtain ⟨wd, hwd⟩ := lx (w0.drew)
  have GD : Hid (Below w0.heap.size w0 wd) := hid (by rw [hwd]; exact bD)
  rw [← hwd] at hHeld ⊢
  clear hwd
  refine tk 0 (oi := ⟨some 6, _, _, _, _, _⟩) rfl ?_
  refine rD 1 (o := ⟨some 7, _, _, _, _, _⟩) rfl (fun K hK => ?_)
  go_simp
  refine (RI.out wd).mono ?_
  rintro e w1 ⟨b, rfl, hrp, hb1⟩
  have G1 := hid (bO GD.out hb1)
  have RP := hid hrp
  clear hb1 hrp
  refine Ko hK (KE.out _ G1.out) (fun hHeld => ?_)
  clear hK K
  refine tk 2 (oi := ⟨some 8, _, _, _, _, _⟩) rfl ?_
  refine tk 3 (oi := ⟨some 9, _, _, _, _, _⟩) rfl ?_
  have BB := hid (bO B0.out G1.out)
  cases b
  ·skip
   refine sk 4 (oi := ⟨some 10, _, _, _, _, _⟩) rfl ?_
   refine sk 5 (oi := ⟨some 11, _, _, _, _, _⟩) rfl ?_
   refine sk 6 (oi := ⟨some 12, _, _, _, _, _⟩) rfl ?_
   refine sk 7 (oi := ⟨some 13, _, _, _, _, _⟩) rfl ?_
   refine sk 8 (oi := ⟨some 14, _, _, _, _, _⟩) rfl ?_
   refine sk 9 (oi := ⟨some 15, _, _, _, _, _⟩) rfl ?_
   refine sk 10 (oi := ⟨some 16, _, _, _, _, _⟩) rfl ?_
   refine sk 11 (oi := ⟨some 17, _, _, _, _, _⟩) rfl ?_
   refine tk 12 (oi := ⟨some 18, _, _, _, _, _⟩) rfl ?_
   refine tk 13 (oi := ⟨some 19, _, _, _, _, _⟩) rfl ?_
   refine sk 14 (oi := ⟨some 20, _, _, _, _, _⟩) rfl ?_
   refine sk 15 (oi := ⟨some 21, _, _, _, _, _⟩) rfl ?_
   refine sk 16 (oi := ⟨some 22, _, _, _, _, _⟩) rfl ?_
   refine sk 17 (oi := ⟨some 23, _, _, _, _, _⟩) rfl ?_
   refine sk 18 (oi := ⟨some 24, _, _, _, _, _⟩) rfl ?_
   refine sk 19 (oi := ⟨some 25, _, _, _, _, _⟩) rfl ?_
   refine sk 20 (oi := ⟨some 26, _, _, _, _, _⟩) rfl ?_
   refine sk 21 (oi := ⟨some 27, _, _, _, _, _⟩) rfl ?_
   refine sk 22 (oi := ⟨some 28, _, _, _, _, _⟩) rfl ?_
   refine sk 23 (oi := ⟨some 29, _, _, _, _, _⟩) rfl ?_
   refine sk 24 (oi := ⟨some 30, _, _, _, _, _⟩) rfl ?_
   refine sk 25 (oi := ⟨some 31, _, _, _, _, _⟩) rfl ?_
   refine tk 26 (oi := ⟨some 32, _, _, _, _, _⟩) rfl ?_
   refine dn ?_
   go_wp2_with fail
   go_ret
   exact ⟨_, rfl, (fun h => by cases h), BB.out⟩
  ·have hpl := (RP.out rfl).path
   have hge : (x.ps.length : Int) ≤ p.path := by omega
   have hd2 : decide ((x.ps.length : Int) ≤ p.path) = true := decide_eq_true hge
   refine tk 4 (oi := ⟨some 10, _, _, _, _, _⟩) rfl ?_
   refine tk 5 (oi := ⟨some 11, _, _, _, _, _⟩) rfl ?_
   refine tk 6 (oi := ⟨some 12, _, _, _, _, _⟩) rfl ?_
   refine tk 7 (oi := ⟨some 13, _, _, _, _, _⟩) rfl ?_
   refine tk 8 (oi := ⟨some 14, _, _, _, _, _⟩) rfl ?_
   refine tk 9 (oi := ⟨some 15, _, _, _, _, _⟩) rfl ?_
   refine tk 10 (oi := ⟨some 16, _, _, _, _, _⟩) rfl ?_
   refine tk 11 (oi := ⟨some 17, _, _, _, _, _⟩) rfl ?_
   refine tk 12 (oi := ⟨some 18, _, _, _, _, _⟩) rfl ?_
   refine tk 13 (oi := ⟨some 19, _, _, _, _, _⟩) rfl ?_
   refine sk 14 (oi := ⟨some 20, _, _, _, _, _⟩) rfl ?_
   refine sk 15 (oi := ⟨some 21, _, _, _, _, _⟩) rfl ?_
   refine sk 16 (oi := ⟨some 22, _, _, _, _, _⟩) rfl ?_
   refine sk 17 (oi := ⟨some 23, _, _, _, _, _⟩) rfl ?_
   refine sk 18 (oi := ⟨some 24, _, _, _, _, _⟩) rfl ?_
   refine sk 19 (oi := ⟨some 25, _, _, _, _, _⟩) rfl ?_
   refine sk 20 (oi := ⟨some 26, _, _, _, _, _⟩) rfl ?_
   refine sk 21 (oi := ⟨some 27, _, _, _, _, _⟩) rfl ?_
   refine sk 22 (oi := ⟨some 28, _, _, _, _, _⟩) rfl ?_
   refine sk 23 (oi := ⟨some 29, _, _, _, _, _⟩) rfl ?_
   refine sk 24 (oi := ⟨some 30, _, _, _, _, _⟩) rfl ?_
   refine sk 25 (oi := ⟨some 31, _, _, _, _, _⟩) rfl ?_
   refine tk 26 (oi := ⟨some 32, _, _, _, _, _⟩) rfl ?_
   refine dn ?_
   go_wp2_with fail
   go_ret
   exact ⟨_, rfl, (fun h => by cases h), BB.out⟩
end
end Go.Proofs.YtdneakejlbabeaaGreat
