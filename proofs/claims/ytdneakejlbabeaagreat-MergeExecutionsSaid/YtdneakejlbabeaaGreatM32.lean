/- Parts of the walk: Vd. -/
import Derived.Test.YtdneakejlbabeaaGreatM31
namespace Go.Proofs.YtdneakejlbabeaaGreat
open Go.RowKit
set_option linter.unusedVariables false
set_option linter.unusedSimpArgs false

theorem Tryz.size31 : (Tryz.prog.info? 31).map (·.size) = some 2 := by kernel_rfl
def SmallE (es : List Ev) : Prop := ∀ e ∈ es, e.data.length ≤ 1000000 ∧ e.pk.data.length ≤ 1000000
def LogsR (w : World) (e : Ending) (w' : World) : Prop := ∃ (v0 v1 : Value) (a b : List Ev) (wl : List (Int × Ev)) (S : Nat → Prop), e = .returned (.agg #[v0, v1]) ∧ ERow S w' v0 a ∧ ERow S w' v1 b ∧ Right a b wl ∧ a.length ≤ 500000 ∧ b.length ≤ 500000 ∧ SmallE a ∧ SmallE b ∧ Below w.heap.size w w'
theorem EvRow.erow {o : Nat → Nat} {B : Nat} {w : World} {v : Value} {es : List Ev} (h : EvRow o B w v es) : ERow (frozen o) w v es := OutG.row (fun e x hx => hx.one) h
theorem logs_end {o o' : Nat → Nat} {w wr : World} {gd gr N : Nat} {d : DuV} {wl : List (Int × Ev)} {W : World} (hN : N ≤ 40000000) (h : DuS o' w.heap.size wr gd d) (hi : DInv (fun _ => N) d wl) (hg : o' gr = 500) (f : Frm (· = gr) wr W) :
    ∃ a b, ERow (frozen o') W (d.x false).vE a ∧ ERow (frozen o') W (d.x true).vE b ∧ Right a b wl ∧ a.length ≤ 500000 ∧ b.length ≤ 500000 ∧ SmallE a ∧ SmallE b := by
  have st : Stp (fun c => c = 500) o' o' wr W := ⟨f.mono (fun j hj => by rw [hj]; exact hg), Agr.refl _ _⟩
  have row : ∀ s, ERow (frozen o') W (d.x s).vE (d.x s).es ∧ (d.x s).es.length ≤ 500000 := fun s => by
    have e := h.e s
    have hk := kk_cases s
    have r : EvRow o' w.heap.size W (d.x s).vE (d.x s).es := e.c7.r.frmO liesE e.c7.ow st (by omega) (by omega) (by omega)
    refine ⟨r.erow, ?_⟩
    have h1 := (hi.ok s).es
    have h2 := e.said_le
    omega
  exact ⟨_, _, (row false).1, (row true).1, ⟨hi.es false, hi.es true, hi.c, hi.t⟩, (row false).2, (row true).2, hi.sm false, hi.sm true⟩
set_option maxHeartbeats 16000000 in
set_option maxRecDepth 100000 in
theorem logs_any (w : World) (c : Cf) (n : Nat) (hc : c.c0 = (n : Int)) (hn : 1 ≤ n ∧ n ≤ 3) (a : Option Addr) (len cap : Nat) (hr : ChRow w a len) (hlc : len ≤ cap) (hcm : cap ≤ maxLen) (most : Nat) (hm : most ≤ 60) :
    Calls Tryz.prog 5 #[cfA c, .slice a len cap, .int .i64 (most : Int)] w fun e w' => LogsR w e w' := by
  unfold maxLen at hcm
  obtain ⟨w0, hw0⟩ : ∃ W, W = (w.alloc (.cells #[.int .i64 c.c0, .int .i64 c.c1, .int .i64 c.c2, .int .i64 c.c3, .int .i64 c.c4, .int .i64 c.c5, .int .i64 c.c6] 33)).alloc (.cells #[.slice none 0 0, .slice none 0 0] 31) := ⟨_, rfl⟩
  obtain ⟨gc, hgc⟩ : ∃ h, h = w.heap.size := ⟨_, rfl⟩
  obtain ⟨gr, hgr⟩ : ∃ h, h = w.heap.size + 1 := ⟨_, rfl⟩
  have BX : Hid (Blk w0 gc (cfL c).toArray 33) := Lib.hid (by rw [hw0, hgc]; exact (Blk.new _ _ _).alloc _)
  have BR : Hid (Blk w0 gr #[.slice none 0 0, .slice none 0 0] 31) := Lib.hid (by
    have := Blk.new (w.alloc (.cells #[.int .i64 c.c0, .int .i64 c.c1, .int .i64 c.c2, .int .i64 c.c3, .int .i64 c.c4, .int .i64 c.c5, .int .i64 c.c6] 33)) #[.slice none 0 0, .slice none 0 0] 31
    rw [hw0, hgr]
    simpa using this)
  have B0 : Hid (Below w.heap.size w w0) := Lib.hid (by rw [hw0]; exact ((Below.refl _ _).alloc (Nat.le_refl _) _).alloc (by simp) _)
  have hgrw : w.heap.size ≤ gr := by omega
  have R0 := Lib.hid (hr.below B0.out)
  obtain ⟨o, ho⟩ : ∃ o : Nat → Nat, o = fun j => if j = gr then 500 else 0 := ⟨_, rfl⟩
  have hoD : Hid (∀ j, ¬ DC (o j)) := Lib.hid (fun j h => by rw [ho] at h; dsimp only at h; split at h <;> (have h1 := h.1; have h2 := h.2; omega))
  have hog : o gr = 500 := by rw [ho]; simp
  have grl : gr < w0.heap.size := BR.out.lt
  have hw0' := hw0.symm
  have hgc' := hgc.symm
  have hgr' : gc + 1 = gr := by omega
  have HC := Lib.hid hc
  have k0 := BX.out.cell 0
  have k1 := BX.out.cell 1
  have k2 := BX.out.cell 2
  have k3 := BX.out.cell 3
  have k4 := BX.out.cell 4
  have k5 := BX.out.cell 5
  have k6 := BX.out.cell 6
  simp only [List.getElem?_toArray, List.getElem?_cons_zero, List.getElem?_cons_succ] at k0 k1 k2 k3 k4 k5 k6
  clear hw0 hgc hgr hc hr ho
  go_enter Tryz.func5, Tryz.ntmps5
  go_wp2_with fail
  clear hw0' hgc' hgr'
  refine (hready_any o hoD.out w0 c n HC.out hn).mono ?_
  rintro e w1 ⟨gd, rfl, h1⟩
  have START := Lib.hid h1
  clear h1 k0 k1 k2 k3 k4 k5 k6
  go_wp2_with fail
  go_loopw [8] (fun i wr => ∃ j : Nat, j ≤ most ∧ j ≤ len ∧ i = .int .i64 j ∧ DuelI o w0 gd (3000000 + 500000 * j) wr) (fun i _ => most - (intOf i).toNat)
  case atStart => exact ⟨0, Nat.zero_le _, Nat.zero_le _, rfl, START.out⟩
  case round =>
    obtain ⟨j, hj, hjl, rfl, hI⟩ := hrel
    have HI := Lib.hid hI
    have bw := hI.bel hoD.out
    have RW := Lib.hid (R0.out.below bw)
    have BRW := Lib.hid (BR.out.below bw)
    have BW := Lib.hid (Below.on' B0.out (Nat.le_refl _) bw)
    clear hI bw
    by_cases hgo : j < len ∧ j < most
    · obtain ⟨h1, h2⟩ := hgo
      have j0 : (0 : Int) ≤ (j : Int) := by omega
      have j1 : (j : Int) < (len : Int) := by omega
      have j2 : (j : Int) < (most : Int) := by omega
      have iwj : IntKind.i64.wrap ((j : Int) + 1) = (j : Int) + 1 := IntWalk.i64_in _ ⟨by omega, by omega⟩
      obtain ⟨ad, x, v, rfl, hcell, hbv⟩ := RW.out j h1
      have q0 := hcell 0 _ rfl
      have q1 := hcell 1 _ rfl
      have q2 := hcell 2 _ rfl
      have q3 := hcell 3 _ rfl
      have q4 := hcell 4 _ rfl
      have q5 := hcell 5 _ rfl
      rw [addr_zero] at q0
      rw [addr_pos _ _ (by omega)] at q1 q2 q3 q4 q5
      obtain ⟨Av, cv, rfl, _, _⟩ := hbv.len
      have ST := Lib.hid (HI.out.choice x hbv)
      clear hcell hbv
      go_wp2_with fail
      refine ST.out.mono ?_
      rintro e w2 ⟨kd, sd, nn, bit, mask, v2, l2, rfl, hb2, hdo⟩
      have DO := Lib.hid (hdo (by omega))
      clear hdo hb2 q0 q1 q2 q3 q4 q5
      go_wp2_with fail
      refine DO.out.mono ?_
      rintro e w3 ⟨q, rfl, h3⟩
      have H3 := Lib.hid h3
      clear h3
      go_wp2_with fail
      go_roundw
      case rel => exact ⟨j + 1, by omega, by omega, by go_num, by have := H3.out; rw [show 3000000 + 500000 * (j + 1) = 3000000 + 500000 * j + 500000 from by omega]; exact this⟩
      case measure => simp [intOf]; omega
    · obtain ⟨o2, d2, wl2, h2, s2, i2⟩ := HI.out
      have og2 : o2 gr = 500 := (s2.ag gr grl).trans hog
      have HD := Lib.hid h2
      have II := Lib.hid i2
      have n0 := h2.blk.cell 0
      have n1 := h2.blk.cell 1
      have e0 := (h2.e false).blk.cell 17
      have e1 := (h2.e true).blk.cell 17
      simp only [List.getElem?_toArray, List.getElem?_cons_zero, List.getElem?_cons_succ] at n0 n1 e0 e1
      obtain ⟨A0, c0, f0⟩ := (h2.e false).c7.r.form
      obtain ⟨A1, c1, f1⟩ := (h2.e true).c7.r.form
      rw [f0] at e0
      rw [f1] at e1
      have HF := Lib.hid (And.intro f0 f1)
      have r0 := BRW.out.cell 0
      have r1 := BRW.out.cell 1
      have y0 := BRW.out.free 0
      have y1 := BRW.out.free 1
      simp only [List.getElem?_toArray, List.getElem?_cons_zero, List.getElem?_cons_succ] at r0 r1
      clear h2 s2 i2 f0 f1 HI
      have hcond : (¬ j < len) ∨ (j < len ∧ ¬ j < most) := by omega
      have FIN : Hid (∀ u0 u1 W, u0 = (d2.x false).vE → u1 = (d2.x true).vE → Frm (· = gr) wr W → LogsR w (.returned (.agg #[u0, u1])) W) := Lib.hid (fun u0 u1 W e0 e1 f => by
        obtain ⟨a, b, h1, h2, h3, h4, h5, h6, h7⟩ := logs_end (o := o) (by omega) HD.out II.out og2 f
        exact ⟨u0, u1, a, b, wl2, frozen o2, rfl, e0 ▸ h1, e1 ▸ h2, h3, h4, h5, h6, h7, Frm.below BW.out f BW.out.size (fun i hi => by rw [hi]; exact hgrw)⟩)
      rcases hcond with h1 | ⟨h1, h2⟩
      all_goals
        first
          | have j1 : ¬ (j : Int) < (len : Int) := by omega
          | have j1 : (j : Int) < (len : Int) := by omega
            have j2 : ¬ (j : Int) < (most : Int) := by omega
        go_wp2_with fail
        refine wp_region_still_tail (id := 6) 17 (by kernel_rfl) (by kernel_rfl) ?_
        change wpStill _ _ (World.drew _) (fun a' => wpList _ _ _ _ a' (World.drew _)) _ _
        simp only [List.take_succ_cons, List.take_zero, List.drop_succ_cons, List.drop_zero]
        repeat still_step
        refine wpStill_nil ?_
        go_wp2_with fail
        have hfin := ((BRW.out.set 0 (.slice A0 (d2.x false).es.length c0)).set 1 (.slice A1 (d2.x true).es.length c1)).drew
        simp only [List.setIfInBounds_toArray, List.set_cons_zero, List.set_cons_succ] at hfin
        refine bodyPost_ret (results_cell_row rfl _ _ gr 31 _ (0, 0) _ rfl hfin Tryz.underlying31 rfl Tryz.size31) rfl ?_
        exact FIN.out _ _ _ HF.out.1.symm HF.out.2.symm (((Frm.refl _ wr).setg _).setg _).drew
end Go.Proofs.YtdneakejlbabeaaGreat
