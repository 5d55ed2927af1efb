/- Parts of the walk: Ub, Uc. -/
import Derived.Test.YtdneakejlbabeaaGreatM00
import Derived.Test.YtdneakejlbabeaaGreatM32
import Derived.Deep.QuietTactic
namespace Go.Proofs.YtdneakejlbabeaaGreat
open Go.RowKit
set_option linter.unusedVariables false
set_option linter.unusedSimpArgs false
section
theorem PkRow.prow {o : Nat → Nat} {B : Nat} {w : World} {v : Value} {ps : List Pk} (h : PkRow o B w v ps) : PRow (frozen o) w v ps :=
 OutG.row (fun p x hx u hu => by
  simp only [pcells, List.mem_cons, List.not_mem_nil, or_false] at hu
  rcases hu with rfl | rfl | rfl | rfl | rfl | rfl | rfl | rfl | rfl <;> first | rfl | exact BV.oneC hx) h
theorem idx80_0 (p q : Option Addr) (w : World) : (Instr.index 80 (.agg #[.pointer p, .pointer q]) (.int .i64 0)).run Tryz.prog w = .ok (.pointer p) w := by kernel_rfl
theorem idx80_1 (p q : Option Addr) (w : World) : (Instr.index 80 (.agg #[.pointer p, .pointer q]) (.int .i64 1)).run Tryz.prog w = .ok (.pointer q) w := by kernel_rfl
attribute [local go_sem] idx80_0 idx80_1
def tookE (x : EndV) : EndV := { x with vO := .slice none 0 0, outs := [] }
/-- What an end said is taken. -/
theorem DuS.took {o : Nat → Nat} {B : Nat} {w : World} {gd : Nat} {d : DuV} (h : DuS o B w gd d) (s : Bool) : DuS o B (w.setCell ⟨d.ge s, 18, none⟩ (.slice none 0 0)) gd { d with x := up d.x s (tookE (d.x s)) } ∧ Stp (fun c => c = kk s) o o w (w.setCell ⟨d.ge s, 18, none⟩ (.slice none 0 0)) := by
 have he := h.e s
 have st : Stp (fun c => c = kk s) o o w (w.setCell ⟨d.ge s, 18, none⟩ (.slice none 0 0)) := ⟨(Frm.refl _ _).setCell (.inl he.og) _, Agr.refl _ _⟩
 refine ⟨h.putE (s := s) (he.put8 (st.mono (fun c hc => .inl hc)) (by simpa using he.blk.set 18 (.slice none 0 0)) ⟨OutG.nil _ _ _ _ _ _ _, fun j hj => by cases hj⟩) (st.mono (fun c hc => by rw [hc]; exact ⟨by omega, by omega⟩)), st⟩
theorem DInv.took {N : Bool → Nat} {d : DuV} {wl : List (Int × Ev)} (h : DInv N d wl) (s : Bool) : DInv N { d with x := up d.x s (tookE (d.x s)) } wl := by
 have he : ∀ t, (up d.x s (tookE (d.x s)) t).es = (d.x t).es := fun t => by
  by_cases ht : t = s
  ·subst ht; rw [up_same]; rfl
  ·rw [up_other _ _ ht]
 refine ⟨fun t => ?_, fun t => ?_, h.c, h.t, fun t y hy => ?_, h.nl, fun t p hp => ?_, h.gl, fun t e hx => h.sm t e (by rw [← he]; exact hx)⟩
 ·show EOk (N t) (up d.x s _ t)
  by_cases ht : t = s
  ·subst ht
   rw [up_same]
   obtain ⟨h1, h2, h3, h4, h5, h6, h7, h8, h9, h10⟩ := h.ok t
   exact ⟨h1, h2, h3, h4, h5, h6, h7, h8, Nat.zero_le _, h10⟩
  ·rw [up_other _ _ ht]
   exact h.ok t
 ·show _ = (up d.x s _ t).es
  rw [he]
  exact h.es t
 ·show NOk (sents (up d.x s _ (!t)).es) y
  rw [he]
  exact h.net t y hy
 ·have hp' : p ∈ (up d.x s (tookE (d.x s)) t).outs := hp
  show p ∈ sents (up d.x s _ t).es
  rw [he]
  by_cases ht : t = s
  ·subst ht
   rw [up_same] at hp'
   cases hp'
  ·rw [up_other _ _ ht] at hp'
   exact h.out t p hp'
/-- A packet of an end's is put. -/
def PassI (o : Nat → Nat) (B : Nat) (w : World) (gd : Nat) (N : Bool → Nat) (d : DuV) (wl : List (Int × Ev)) (j : Nat) (wr : World) : Prop :=
 ∃ (o' : Nat → Nat) (d' : DuV), DuS o' B wr gd d' ∧ Stp DC o o' w wr ∧ DInv N d' wl ∧ d'.ge = d.ge ∧ (1 ≤ j → (d'.x false).outs = []) ∧ (2 ≤ j → (d'.x true).outs = [])
def PutI (o1 : Nat → Nat) (B : Nat) (w1 : World) (gd : Nat) (N : Bool → Nat) (d1 : DuV) (wl : List (Int × Ev)) (s : Bool) (ws : World) : Prop :=
 ∃ (o' : Nat → Nat) (d' : DuV), DuS o' B ws gd d' ∧ Stp (fun c => c = 300 ∨ c = 302 + sN (!s)) o1 o' w1 ws ∧ DInv N d' wl ∧ d'.ge = d1.ge ∧ d'.x = d1.x
theorem PutI.put {o1 o2 : Nat → Nat} {B : Nat} {w1 ws w' : World} {gd : Nat} {N : Bool → Nat} {d1 d2 : DuV} {wl : List (Int × Ev)} {s : Bool} {p : Pk} {e : Ending} (h : DuS o2 B ws gd d2) (st : Stp (fun c => c = 300 ∨ c = 302 + sN (!s)) o1 o2 w1 ws) (hi : DInv N d2 wl) (hge : d2.ge = d1.ge) (hx : d2.x = d1.x) (hp : p ∈ sents (d2.x s).es) (hn : NPutR o2 B ws gd (!s) (d2.l (!s)) p e w') :
  ∃ n : Int, e = .returned (.int .i64 n) ∧ PutI o1 B w1 gd N d1 wl s w' := by
 obtain ⟨n, rfl, hn | ⟨hr, hl, hn⟩⟩ := hn
 ·exact ⟨n, rfl, o2, d2, h.below hn, st.trans (Stp.below hn), hi, hge, hx⟩
 ·obtain ⟨o3, v3, h3, st3⟩ := h.putN hn
  refine ⟨n, rfl, o3, _, h3, st.trans st3, hi.netw _ (by rw [List.length_append]; exact hl) (fun y hy => ?_), hge, hx⟩
  rw [Bool.not_not]
  have hmem : ∀ y ∈ d2.l (!s) ++ [(sealL (plainL p), false)], Byt y.1 := fun y hy => by
   have := (h3.n (!s)).byt (y := y)
   show Byt y.1
   refine this ?_
   show y ∈ up d2.l (!s) _ (!s)
   rw [up_same]
   exact hy
  rcases List.mem_append.1 hy with h1 | h1
  ·have := hi.net (!s) y h1
   rwa [Bool.not_not] at this
  ·rw [List.mem_singleton.1 h1]
   exact ⟨p, hp, hr, hmem (sealL (plainL p), false) (by simp), .inl ⟨rfl, rfl⟩⟩
theorem PassI.next {o o1 : Nat → Nat} {B : Nat} {w wr w1 w' : World} {gd : Nat} {N : Bool → Nat} {d d1 : DuV} {wl : List (Int × Ev)} {s : Bool} {j : Nat} (hj : (j : Int) = sI s) (h : DuS o1 B wr gd d1) (st : Stp DC o o1 w wr) (hge : d1.ge = d.ge) (h0 : 1 ≤ j → (d1.x false).outs = [])
  (hs1 : Stp (fun c => c = kk s) o1 o1 wr w1) (hp : PutI o1 B w1 gd N { d1 with x := up d1.x s (tookE (d1.x s)) } wl s w') : PassI o B w gd N d wl (j + 1) w' := by
 obtain ⟨o2, d2, h2, st2, hi2, hge2, hx2⟩ := hp
 have hk := kk_cases s
 have hn := sN_cases (!s)
 refine ⟨o2, d2, h2, (st.trans (hs1.mono (fun c hc => by rw [hc]; exact ⟨by omega, by omega⟩))).trans (st2.mono (fun c hc => by rcases hc with rfl | rfl <;> exact ⟨by omega, by omega⟩)), hi2, hge2.trans hge, fun _ => ?_, fun h2j => ?_⟩
 ·rw [hx2]
  show (up d1.x s _ false).outs = []
  cases s
  ·rw [up_same]; rfl
  ·rw [up_other _ _ (by simp)]
   exact h0 (by simp [sI] at hj; omega)
 ·rw [hx2]
  show (up d1.x s _ true).outs = []
  cases s
  ·simp [sI] at hj; omega
  ·rw [up_same]; rfl
def PassR (o : Nat → Nat) (B : Nat) (w : World) (gd : Nat) (N : Bool → Nat) (d : DuV) (wl : List (Int × Ev)) (e : Ending) (w' : World) : Prop := e = .returned (.tuple #[]) ∧ PassI o B w gd N d wl 2 w'
set_option maxHeartbeats 16000000 in
set_option maxRecDepth 100000 in
theorem pass_any (o : Nat → Nat) (B : Nat) (w : World) (gd : Nat) (N : Bool → Nat) (d : DuV) (wl : List (Int × Ev)) (h : DuS o B w gd d) (hi : DInv N d wl) (hB : B ≤ w.heap.size) :
  Calls Tryz.prog 32 #[.pointer (some ⟨gd, 0, none⟩)] w fun e w' => PassR o B w gd N d wl e w' := by
 have START : Hid (PassI o B w gd N d wl 0 w) := hid ⟨o, d, h, Stp.refl _ _ _, hi, rfl, fun h => by omega, fun h => by omega⟩
 have n0 := h.blk.cell 0
 have n1 := h.blk.cell 1
 simp only [gA, gZ, gC] at n0 n1
 clear h hi
 go_enter Tryz.func32, Tryz.ntmps32
 go_wp2_with fail
 clear n0 n1
 go_loopw [10] (fun i wr => ∃ j : Nat, j ≤ 2 ∧ i = .int .i64 j ∧ PassI o B w gd N d wl j wr) (fun i _ => 2 - (intOf i).toNat)
 case atStart => exact ⟨0, Nat.zero_le _, rfl, START.out⟩
 case round =>
  obtain ⟨j, hj, rfl, hI⟩ := hrel
  have HI := hid hI
  obtain ⟨o1, d1, h1, st1, hi1, hge1, hz0, hz1⟩ := hI
  by_cases hj2 : j < 2
  ·obtain ⟨s, hs⟩ : ∃ s : Bool, (j : Int) = sI s := by
    rcases (by omega : j = 0 ∨ j = 1) with rfl | rfl
    ·exact ⟨false, rfl⟩
    ·exact ⟨true, rfl⟩
   have hgs : d.ge s = d1.ge s := by rw [hge1]
   have sr := st1.size
   have j1 : (j : Int) < 2 := by omega
   have iwj : IntKind.i64.wrap ((j : Int) + 1) = (j : Int) + 1 := iX
   obtain ⟨h2, st2⟩ := h1.took s
   have hi2 := hi1.took s
   have r8 := (h1.e s).c8.r
   have ow8 := (h1.e s).c8.ow
   have hout := hi1.out s
   obtain ⟨A8, c8, hv8⟩ := r8.form
   have TK : Hid (Calls Tryz.prog 50 #[.pointer (some ⟨d.ge s, 0, none⟩)] wr fun e w' => e = .returned (.slice A8 (d1.x s).outs.length c8) ∧ w' = wr.setCell ⟨d1.ge s, 18, none⟩ (.slice none 0 0)) := hid (by rw [hgs, ← hv8]; exact etake_any o1 (kk s) B wr (d1.ge s) (d1.x s) (h1.e s))
   obtain ⟨w1, hw1⟩ := lx (wr.setCell ⟨d1.ge s, 18, none⟩ (.slice none 0 0))
   rw [← hw1] at h2 st2 TK
   have RW : Hid (PkRow o1 B w1 (.slice A8 (d1.x s).outs.length c8) (d1.x s).outs ∧ Ow o1 w1 (kk s + 8) (.slice A8 (d1.x s).outs.length c8)) := hid (by
    have hk := kk_cases s
    rw [← hv8]
    exact ⟨r8.frmO liesP ow8 st2 (by omega) (by omega) (by omega), ow8.frm st2.ag st2.size⟩)
   have NXT : Hid (∀ w', PutI o1 B w1 gd N { d1 with x := up d1.x s (tookE (d1.x s)) } wl s w' → PassI o B w gd N d wl (j + 1) w') := hid (fun w' hp => PassI.next hs h1 st1 hge1 hz0 st2 hp)
   obtain ⟨d2, hd2⟩ : ∃ d2 : DuV, d2 = { d1 with x := up d1.x s (tookE (d1.x s)) } := ⟨_, rfl⟩
   rw [← hd2] at h2 hi2 NXT
   have hes2 : (d2.x s).es = (d1.x s).es := by rw [hd2]; show (up d1.x s _ s).es = _; rw [up_same]; rfl
   have P0 : Hid (PutI o1 B w1 gd N d2 wl s w1) := hid ⟨o1, d2, h2, Stp.refl _ _ _, hi2, rfl, rfl⟩
   obtain ⟨ps, hps⟩ : ∃ ps, (d1.x s).outs = ps := ⟨_, rfl⟩
   rw [hps] at RW TK hout
   have HOUT : Hid (∀ p ∈ ps, p ∈ sents (d2.x s).es ∧ p.data.length ≤ 1000000) := hid (fun p hp => by
    have h1 := hout p hp
    rw [hes2]
    refine ⟨h1, ?_⟩
    obtain ⟨e, he, _, rfl⟩ := sents_mem h1
    exact (hi1.sm s e he).2)
   obtain ⟨np, hnp⟩ : ∃ n, ps.length = n := ⟨_, rfl⟩
   rw [hnp] at TK RW
   have hnpl : np ≤ 100000000 := by
    have q1 := (hi1.ok s).outs
    have q2 := (hi1.ok s).N
    have q3 := (h1.e s).said_le
    rw [hps] at q1
    omega
   have HNP := hid hnp
   have HW1 := hid hw1
   have HS := hid hs
   clear h1 st1 hi1 hge1 hz0 hz1 h2 st2 hi2 r8 ow8 hout hv8 hgs hd2 hes2 hps hnp hw1 HI
   rcases (by omega : j = 0 ∨ j = 1) with rfl | rfl
   ·obtain rfl : s = false := by cases s <;> simp [sI] at hs <;> rfl
    unfold sI at HS
    clear hs
    go_wp2_with fail
    refine TK.out.mono ?_
    rintro e w1 ⟨rfl, rfl⟩
    have SZ : Hid (B ≤ w1.heap.size) := hid (Nat.le_trans (Nat.le_trans hB sr) (by rw [HW1.out]; simp [World.setCell]))
    go_wp2_with fail
    go_loopw [17] (fun i ws => ∃ m : Nat, m ≤ np ∧ i = .int .i64 m ∧ PutI o1 B w1 gd N d2 wl false ws) (fun i _ => np - (intOf i).toNat)
    case atStart => exact ⟨0, Nat.zero_le _, rfl, P0.out⟩
    case round =>
     obtain ⟨m, hm, rfl, hI2⟩ := hrel
     have HI2 := hid hI2
     clear hI2
     by_cases hmn : m < np
     ·have m0 : (0 : Int) ≤ (m : Int) := by omega
      have m1 : (m : Int) < (np : Int) := by omega
      have iwm : IntKind.i64.wrap ((m : Int) + 1) = (m : Int) + 1 := iX
      obtain ⟨o3, d3, h3, st3, hi3, hge3, hx3⟩ := HI2.out
      have sr3 := st3.size
      have hrw : PkRow o3 B _ (.slice A8 np c8) ps := RW.out.1.frmO liesP RW.out.2 st3 (by omega) (by simp [sN, kk]) (by simp [kk])
      obtain ⟨ad, p, xv, rfl, hp, hbv, q0, q1, q2, q3, q4, q5, q6, q7, q8⟩ := PRow.pk hrw.prow (i := m) (by have := HNP.out; omega)
      have hpm := HOUT.out p (List.mem_of_getElem? hp)
      rw [← hx3] at hpm
      obtain ⟨Ax, cx, rfl, _, _⟩ := hbv.len
      have HB := hid hbv
      have H3 := hid h3
      have I3 := hid hi3
      have ST3 := hid st3
      have G3 := hid hge3
      have X3 := hid hx3
      have HPM := hid hpm
      clear h3 st3 hi3 hge3 hx3 hpm hbv hrw hp HI2
      go_wp2_with fail
      obtain ⟨w5, hw5⟩ := lx (wr.alloc (.cells #[.int .i64 p.kind, .int .i64 p.path, .int .i64 p.number, .int .i64 p.of_, .int .i64 p.from_, .slice Ax p.data.length cx, .bool p.fin, .int .i64 p.seen, .int .i64 p.limit] 27))
      obtain ⟨gp, hgp⟩ := lx (wr.heap.size)
      have B5 : Hid (Below wr.heap.size wr w5) := hid (by rw [hw5]; exact ba)
      have BX : Hid (Blk w5 gp (pcells p (.slice Ax p.data.length cx)).toArray 27) := hid (by rw [hw5, hgp]; exact Blk.new _ _ _)
      rw [← hw5, ← hgp]
      clear hw5 hgp q0 q1 q2 q3 q4 q5 q6 q7 q8
      obtain ⟨k0, k1, k2, k3, k4, k5, k6, k7, k8⟩ := PB.of BX.out
      have H5 := hid (H3.out.below B5.out.drew)
      have NP : Hid (Calls Tryz.prog 51 #[.pointer (some ⟨gd, 2, none⟩), .int .i64 (sI (!false)), pagg p (.slice Ax p.data.length cx)] w5.drew fun e w' => ∃ n : Int, e = .returned (.int .i64 n) ∧ PutI o1 B w1 gd N d2 wl false w') := hid ((nput_any w5.drew gd o3 B d3.v d3.l (!false) p (frozen o3) _ (H5.out.blk.cell 2) (H5.out.blk.cell 3) (fun i => H5.out.blk.free i) H5.out.n (H5.out.no _) H5.out.og (Nat.le_trans (Nat.le_trans SZ.out sr3) B5.out.size) (HB.out.below B5.out.drew) HPM.out.2).mono (fun e w' hn => PutI.put H5.out (ST3.out.trans (Stp.below B5.out.drew)) I3.out G3.out X3.out HPM.out.1 hn))
      unfold sI at NP
      clear H3
      go_wp2_with fail
      refine wp_region_still_tail (id := 6) 6 (by kernel_rfl) (by kernel_rfl) ?_
      change wpStill _ _ (World.drew _) (fun a' => wpList _ _ _ _ a' (World.drew _)) _ _
      simp only [List.take_succ_cons, List.take_zero, List.drop_succ_cons, List.drop_zero]
      repeat still_step
      refine wpStill_nil ?_
      go_wp2_with fail
      refine NP.out.mono ?_
      rintro e w7 ⟨n7, rfl, hp7⟩
      have P7 := hid hp7
      clear hp7
      go_wp2_with fail
      go_roundw
      case rel => exact ⟨m + 1, hmn, by go_num, P7.out⟩
      case measure => simp [intOf]; omega
     ·have m1 : ¬ (m : Int) < (np : Int) := by omega
      have NX := hid (NXT.out _ HI2.out)
      clear HI2
      go_wp2_with fail
      go_roundw
      case rel => exact ⟨_, by omega, by go_num, NX.out⟩
      case measure => simp [intOf]
   ·obtain rfl : s = true := by cases s <;> simp [sI] at hs <;> rfl
    unfold sI at HS
    clear hs
    go_wp2_with fail
    refine TK.out.mono ?_
    rintro e w1 ⟨rfl, rfl⟩
    have SZ : Hid (B ≤ w1.heap.size) := hid (Nat.le_trans (Nat.le_trans hB sr) (by rw [HW1.out]; simp [World.setCell]))
    go_wp2_with fail
    go_loopw [17] (fun i ws => ∃ m : Nat, m ≤ np ∧ i = .int .i64 m ∧ PutI o1 B w1 gd N d2 wl true ws) (fun i _ => np - (intOf i).toNat)
    case atStart => exact ⟨0, Nat.zero_le _, rfl, P0.out⟩
    case round =>
     obtain ⟨m, hm, rfl, hI2⟩ := hrel
     have HI2 := hid hI2
     clear hI2
     by_cases hmn : m < np
     ·have m0 : (0 : Int) ≤ (m : Int) := by omega
      have m1 : (m : Int) < (np : Int) := by omega
      have iwm : IntKind.i64.wrap ((m : Int) + 1) = (m : Int) + 1 := iX
      obtain ⟨o3, d3, h3, st3, hi3, hge3, hx3⟩ := HI2.out
      have sr3 := st3.size
      have hrw : PkRow o3 B _ (.slice A8 np c8) ps := RW.out.1.frmO liesP RW.out.2 st3 (by omega) (by simp [sN, kk]) (by simp [kk])
      obtain ⟨ad, p, xv, rfl, hp, hbv, q0, q1, q2, q3, q4, q5, q6, q7, q8⟩ := PRow.pk hrw.prow (i := m) (by have := HNP.out; omega)
      have hpm := HOUT.out p (List.mem_of_getElem? hp)
      rw [← hx3] at hpm
      obtain ⟨Ax, cx, rfl, _, _⟩ := hbv.len
      have HB := hid hbv
      have H3 := hid h3
      have I3 := hid hi3
      have ST3 := hid st3
      have G3 := hid hge3
      have X3 := hid hx3
      have HPM := hid hpm
      clear h3 st3 hi3 hge3 hx3 hpm hbv hrw hp HI2
      go_wp2_with fail
      obtain ⟨w5, hw5⟩ := lx (wr.alloc (.cells #[.int .i64 p.kind, .int .i64 p.path, .int .i64 p.number, .int .i64 p.of_, .int .i64 p.from_, .slice Ax p.data.length cx, .bool p.fin, .int .i64 p.seen, .int .i64 p.limit] 27))
      obtain ⟨gp, hgp⟩ := lx (wr.heap.size)
      have B5 : Hid (Below wr.heap.size wr w5) := hid (by rw [hw5]; exact ba)
      have BX : Hid (Blk w5 gp (pcells p (.slice Ax p.data.length cx)).toArray 27) := hid (by rw [hw5, hgp]; exact Blk.new _ _ _)
      rw [← hw5, ← hgp]
      clear hw5 hgp q0 q1 q2 q3 q4 q5 q6 q7 q8
      obtain ⟨k0, k1, k2, k3, k4, k5, k6, k7, k8⟩ := PB.of BX.out
      have H5 := hid (H3.out.below B5.out.drew)
      have NP : Hid (Calls Tryz.prog 51 #[.pointer (some ⟨gd, 2, none⟩), .int .i64 (sI (!true)), pagg p (.slice Ax p.data.length cx)] w5.drew fun e w' => ∃ n : Int, e = .returned (.int .i64 n) ∧ PutI o1 B w1 gd N d2 wl true w') := hid ((nput_any w5.drew gd o3 B d3.v d3.l (!true) p (frozen o3) _ (H5.out.blk.cell 2) (H5.out.blk.cell 3) (fun i => H5.out.blk.free i) H5.out.n (H5.out.no _) H5.out.og (Nat.le_trans (Nat.le_trans SZ.out sr3) B5.out.size) (HB.out.below B5.out.drew) HPM.out.2).mono (fun e w' hn => PutI.put H5.out (ST3.out.trans (Stp.below B5.out.drew)) I3.out G3.out X3.out HPM.out.1 hn))
      unfold sI at NP
      clear H3
      go_wp2_with fail
      refine wp_region_still_tail (id := 6) 6 (by kernel_rfl) (by kernel_rfl) ?_
      change wpStill _ _ (World.drew _) (fun a' => wpList _ _ _ _ a' (World.drew _)) _ _
      simp only [List.take_succ_cons, List.take_zero, List.drop_succ_cons, List.drop_zero]
      repeat still_step
      refine wpStill_nil ?_
      go_wp2_with fail
      refine NP.out.mono ?_
      rintro e w7 ⟨n7, rfl, hp7⟩
      have P7 := hid hp7
      clear hp7
      go_wp2_with fail
      go_roundw
      case rel => exact ⟨m + 1, hmn, by go_num, P7.out⟩
      case measure => simp [intOf]; omega
     ·have m1 : ¬ (m : Int) < (np : Int) := by omega
      have NX := hid (NXT.out _ HI2.out)
      clear HI2
      go_wp2_with fail
      go_roundw
      case rel => exact ⟨_, by omega, by go_num, NX.out⟩
      case measure => simp [intOf]
  ·obtain rfl : j = 2 := by omega
   clear h1 st1 hi1 hge1 hz0 hz1
   go_wp2_with fail
   refine bodyPost_ret (results_none rfl _ _ _) rfl ?_
   exact ⟨rfl, HI.out⟩
end

section
/-- What a step leaves. -/
def DuR (o : Nat → Nat) (B : Nat) (w : World) (gd N : Nat) (w' : World) : Prop :=
 ∃ (o' : Nat → Nat) (d' : DuV) (wl' : List (Int × Ev)), DuS o' B w' gd d' ∧ Stp DC o o' w w' ∧ DInv (fun _ => N + 500000) d' wl'
def DoR (o : Nat → Nat) (B : Nat) (w : World) (gd N : Nat) (d : DuV) (wl : List (Int × Ev)) (e : Ending) (w' : World) : Prop :=
 ∃ q : Bool, e = .returned (.bool q) ∧ DuR o B w gd N w'
theorem EC_DC (s : Bool) : ∀ c, EC (kk s) c → DC c := fun c hc => by
 have h1 := hc.1
 have h2 := hc.2
 have := kk_cases s
 exact ⟨by omega, by omega⟩
theorem DuR.act {o o1 o' : Nat → Nat} {B : Nat} {w w1 w' : World} {gd N : Nat} {d : DuV} {wl : List (Int × Ev)} {s : Bool} {x' : EndV} {es : List Ev} (hN : N + 500000 ≤ 40000000) (st : Stp DC o o1 w w1) (h : DuS o1 B w1 gd d) (hi : DInv (fun _ => N) d wl) (hx : EndS o' (kk s) B w' (d.ge s) x') (st2 : Stp (EC (kk s)) o1 o' w1 w') (ha : Act (N + 500000) (d.x s) x' es) (hc : ∀ e ∈ es, e.kind = 4 → e.pk ∈ sents (d.x (!s)).es) : DuR o B w gd N w' :=
 ⟨o', _, _, h.putE hx st2, st.trans (st2.mono (EC_DC s)), (hi.act ha hc).upN (fun t => by
  by_cases ht : t = s
  ·subst ht; rw [up_same]; exact ⟨Nat.le_refl _, hN⟩
  ·rw [up_other _ _ ht]; exact ⟨by omega, hN⟩)⟩
theorem DuR.call {o o1 : Nat → Nat} {B : Nat} {w w1 w' : World} {gd N : Nat} {d : DuV} {wl : List (Int × Ev)} {s : Bool} (hN : N + 500000 ≤ 40000000) (st : Stp (fun _ => False) o o1 w w1) (h : DuS o1 B w1 gd d) (hi : DInv (fun _ => N) d wl) (hc : CallR o1 (kk s) B N w1 (d.ge s) (d.x s) w') : DuR o B w gd N w' := by
 obtain ⟨o', x', es, hx, st2, ha, h4⟩ := hc
 exact DuR.act hN (st.mono (fun _ h => h.elim)) h hi hx st2 ha (fun e he h => absurd h (h4 e he))
theorem DuR.rest {o o1 : Nat → Nat} {B : Nat} {w w' : World} {gd N : Nat} {d : DuV} {wl : List (Int × Ev)} (hN : N + 500000 ≤ 40000000) (st : Stp DC o o1 w w') (h : DuS o1 B w' gd d) (hi : DInv (fun _ => N) d wl) : DuR o B w gd N w' :=
 ⟨o1, d, wl, h, st, hi.upN (fun _ => ⟨by omega, hN⟩)⟩
set_option maxHeartbeats 16000000 in
set_option maxRecDepth 100000 in
theorem do_k1 (o : Nat → Nat) (B : Nat) (w : World) (gd N : Nat) (d : DuV) (wl : List (Int × Ev)) (s : Bool) (n bit mask : Int) (v : Value) (l : List Int) (h : DuS o B w gd d) (hi : DInv (fun _ => N) d wl) (hN : N + 500000 ≤ 40000000) (hB : B ≤ w.heap.size) (hv : BV w (frozen o) v l) (hl : l.length ≤ 1000000) :
  Calls Tryz.prog 31 #[.pointer (some ⟨gd, 0, none⟩), .agg #[.int .i64 1, .int .i64 (sI s), .int .i64 n, .int .i64 bit, .int .u32 mask, v]] w fun e w' => DoR o B w gd N d wl e w' := by
 obtain ⟨Av, cv, rfl, _, _⟩ := hv.len
 obtain ⟨w0, hw0⟩ := lx (w.alloc (.cells #[.int .i64 1, .int .i64 (sI s), .int .i64 n, .int .i64 bit, .int .u32 mask, .slice Av l.length cv] 61))
 obtain ⟨gs, hgs⟩ := lx (w.heap.size)
 have B0 : Hid (Below w.heap.size w w0) := hid (by rw [hw0]; exact ba)
 have BX : Hid (Blk w0 gs #[.int .i64 1, .int .i64 (sI s), .int .i64 n, .int .i64 bit, .int .u32 mask, .slice Av l.length cv] 61) := hid (by rw [hw0, hgs]; exact Blk.new _ _ _)
 have S0 : Hid (Stp (fun _ => False) o (scr o w.heap.size 0) w w0) := hid ⟨Frm.of_below B0.out, scr_agr _ _ _⟩
 have og : scr o w.heap.size 0 gs = 0 := by rw [hgs]; exact scr_new (Nat.le_refl _)
 obtain ⟨o0, ho0⟩ := lx (scr o w.heap.size 0)
 rw [← ho0] at S0 og
 have H0 := hid (h.frm S0.out (fun h => h) (fun _ h => h.elim))
 have V0 : Hid (BV w0 (frozen o0) (.slice Av l.length cv) l) := hid (BV.stpK hv S0.out (fun h => h))
 have IV := hid hi
 have hw0' := hw0.symm
 have hgs' := hgs.symm
 have sB : B ≤ w0.heap.size := Nat.le_trans hB B0.out.size
 have k0 := BX.out.cell 0
 have k1 := BX.out.cell 1
 have k2 := BX.out.cell 2
 have k3 := BX.out.cell 3
 have k4 := BX.out.cell 4
 have k5 := BX.out.cell 5
 have n0 := H0.out.blk.cell 0
 have n1 := H0.out.blk.cell 1
 simp only [gA, gZ, gC] at k0 k1 k2 k3 k4 k5 n0 n1
 clear h hi hv hw0 hgs ho0
 cases s
 case false =>
  have e0 : sI false = 0 := rfl
  rw [e0] at hw0' k1 BX ⊢
  clear e0
  go_enter Tryz.func31, Tryz.ntmps31
  go_wp2_with fail
  clear hw0' hgs'
  go_quiet (fail)
  obtain ⟨wb, hwb⟩ := lx (w0.drewN nq)
  rw [← hwb]
  have GB : Hid (Below w0.heap.size w0 wb) := hid (by rw [hwb]; exact below_drewN (Below.refl _ _) _)
  have SB : Hid (Stp (fun _ => False) o o0 w wb) := hid (S0.out.trans (Stp.below GB.out))
  have HD := hid (H0.out.below GB.out)
  have VB := hid (V0.out.below GB.out)
  have BXB := hid (BX.out.below GB.out)
  have sBb : B ≤ wb.heap.size := Nat.le_trans sB GB.out.size
  clear hwb H0 V0 BX k0 k1 k2 k3 k4 k5 n0 n1
  have k0 := BXB.out.cell 0
  have k1 := BXB.out.cell 1
  have k2 := BXB.out.cell 2
  have k3 := BXB.out.cell 3
  have k4 := BXB.out.cell 4
  have k5 := BXB.out.cell 5
  have n0 := HD.out.blk.cell 0
  have n1 := HD.out.blk.cell 1
  simp only [gA, gZ, gC] at k0 k1 k2 k3 k4 k5 n0 n1
  go_wp2_with fail
  refine (ewrite_any o0 (kk false) B N wb (d.ge false) (d.x false) _ l (HD.out.e false) (IV.out.ok false) hN sBb VB.out hl).mono ?_
  rintro e w2 ⟨z, rfl, hc⟩
  have R := hid (DuR.call hN SB.out HD.out IV.out hc)
  clear hc
  go_wp2_with fail
  go_ret
  exact ⟨_, rfl, R.out⟩
 case true =>
  have e0 : sI true = 1 := rfl
  rw [e0] at hw0' k1 BX ⊢
  clear e0
  go_enter Tryz.func31, Tryz.ntmps31
  go_wp2_with fail
  clear hw0' hgs'
  go_quiet (fail)
  obtain ⟨wb, hwb⟩ := lx (w0.drewN nq)
  rw [← hwb]
  have GB : Hid (Below w0.heap.size w0 wb) := hid (by rw [hwb]; exact below_drewN (Below.refl _ _) _)
  have SB : Hid (Stp (fun _ => False) o o0 w wb) := hid (S0.out.trans (Stp.below GB.out))
  have HD := hid (H0.out.below GB.out)
  have VB := hid (V0.out.below GB.out)
  have BXB := hid (BX.out.below GB.out)
  have sBb : B ≤ wb.heap.size := Nat.le_trans sB GB.out.size
  clear hwb H0 V0 BX k0 k1 k2 k3 k4 k5 n0 n1
  have k0 := BXB.out.cell 0
  have k1 := BXB.out.cell 1
  have k2 := BXB.out.cell 2
  have k3 := BXB.out.cell 3
  have k4 := BXB.out.cell 4
  have k5 := BXB.out.cell 5
  have n0 := HD.out.blk.cell 0
  have n1 := HD.out.blk.cell 1
  simp only [gA, gZ, gC] at k0 k1 k2 k3 k4 k5 n0 n1
  go_wp2_with fail
  refine (ewrite_any o0 (kk true) B N wb (d.ge true) (d.x true) _ l (HD.out.e true) (IV.out.ok true) hN sBb VB.out hl).mono ?_
  rintro e w2 ⟨z, rfl, hc⟩
  have R := hid (DuR.call hN SB.out HD.out IV.out hc)
  clear hc
  go_wp2_with fail
  go_ret
  exact ⟨_, rfl, R.out⟩
set_option maxHeartbeats 16000000 in
set_option maxRecDepth 100000 in
theorem do_k3 (o : Nat → Nat) (B : Nat) (w : World) (gd N : Nat) (d : DuV) (wl : List (Int × Ev)) (s : Bool) (n bit mask : Int) (v : Value) (l : List Int) (h : DuS o B w gd d) (hi : DInv (fun _ => N) d wl) (hN : N + 500000 ≤ 40000000) (hB : B ≤ w.heap.size) (hv : BV w (frozen o) v l) (hl : l.length ≤ 1000000) :
  Calls Tryz.prog 31 #[.pointer (some ⟨gd, 0, none⟩), .agg #[.int .i64 3, .int .i64 (sI s), .int .i64 n, .int .i64 bit, .int .u32 mask, v]] w fun e w' => DoR o B w gd N d wl e w' := by
 obtain ⟨Av, cv, rfl, _, _⟩ := hv.len
 obtain ⟨w0, hw0⟩ := lx (w.alloc (.cells #[.int .i64 3, .int .i64 (sI s), .int .i64 n, .int .i64 bit, .int .u32 mask, .slice Av l.length cv] 61))
 obtain ⟨gs, hgs⟩ := lx (w.heap.size)
 have B0 : Hid (Below w.heap.size w w0) := hid (by rw [hw0]; exact ba)
 have BX : Hid (Blk w0 gs #[.int .i64 3, .int .i64 (sI s), .int .i64 n, .int .i64 bit, .int .u32 mask, .slice Av l.length cv] 61) := hid (by rw [hw0, hgs]; exact Blk.new _ _ _)
 have S0 : Hid (Stp (fun _ => False) o (scr o w.heap.size 0) w w0) := hid ⟨Frm.of_below B0.out, scr_agr _ _ _⟩
 have og : scr o w.heap.size 0 gs = 0 := by rw [hgs]; exact scr_new (Nat.le_refl _)
 obtain ⟨o0, ho0⟩ := lx (scr o w.heap.size 0)
 rw [← ho0] at S0 og
 have H0 := hid (h.frm S0.out (fun h => h) (fun _ h => h.elim))
 have V0 : Hid (BV w0 (frozen o0) (.slice Av l.length cv) l) := hid (BV.stpK hv S0.out (fun h => h))
 have IV := hid hi
 have hw0' := hw0.symm
 have hgs' := hgs.symm
 have sB : B ≤ w0.heap.size := Nat.le_trans hB B0.out.size
 have k0 := BX.out.cell 0
 have k1 := BX.out.cell 1
 have k2 := BX.out.cell 2
 have k3 := BX.out.cell 3
 have k4 := BX.out.cell 4
 have k5 := BX.out.cell 5
 have n0 := H0.out.blk.cell 0
 have n1 := H0.out.blk.cell 1
 simp only [gA, gZ, gC] at k0 k1 k2 k3 k4 k5 n0 n1
 clear h hi hv hw0 hgs ho0
 cases s
 case false =>
  have e0 : sI false = 0 := rfl
  rw [e0] at hw0' k1 BX ⊢
  clear e0
  go_enter Tryz.func31, Tryz.ntmps31
  go_wp2_with fail
  clear hw0' hgs'
  go_quiet (fail)
  obtain ⟨wb, hwb⟩ := lx (w0.drewN nq)
  rw [← hwb]
  have GB : Hid (Below w0.heap.size w0 wb) := hid (by rw [hwb]; exact below_drewN (Below.refl _ _) _)
  have SB : Hid (Stp (fun _ => False) o o0 w wb) := hid (S0.out.trans (Stp.below GB.out))
  have HD := hid (H0.out.below GB.out)
  have VB := hid (V0.out.below GB.out)
  have BXB := hid (BX.out.below GB.out)
  have sBb : B ≤ wb.heap.size := Nat.le_trans sB GB.out.size
  clear hwb H0 V0 BX k0 k1 k2 k3 k4 k5 n0 n1
  have k0 := BXB.out.cell 0
  have k1 := BXB.out.cell 1
  have k2 := BXB.out.cell 2
  have k3 := BXB.out.cell 3
  have k4 := BXB.out.cell 4
  have k5 := BXB.out.cell 5
  have n0 := HD.out.blk.cell 0
  have n1 := HD.out.blk.cell 1
  simp only [gA, gZ, gC] at k0 k1 k2 k3 k4 k5 n0 n1
  go_wp2_with fail
  refine (close_any o0 (kk false) B N wb (d.ge false) (d.x false) (HD.out.e false) (IV.out.ok false) hN sBb).mono ?_
  rintro e w2 ⟨q, rfl, hc⟩
  have R := hid (DuR.call hN SB.out HD.out IV.out hc)
  clear hc
  go_wp2_with fail
  go_ret
  exact ⟨_, rfl, R.out⟩
 case true =>
  have e0 : sI true = 1 := rfl
  rw [e0] at hw0' k1 BX ⊢
  clear e0
  go_enter Tryz.func31, Tryz.ntmps31
  go_wp2_with fail
  clear hw0' hgs'
  go_quiet (fail)
  obtain ⟨wb, hwb⟩ := lx (w0.drewN nq)
  rw [← hwb]
  have GB : Hid (Below w0.heap.size w0 wb) := hid (by rw [hwb]; exact below_drewN (Below.refl _ _) _)
  have SB : Hid (Stp (fun _ => False) o o0 w wb) := hid (S0.out.trans (Stp.below GB.out))
  have HD := hid (H0.out.below GB.out)
  have VB := hid (V0.out.below GB.out)
  have BXB := hid (BX.out.below GB.out)
  have sBb : B ≤ wb.heap.size := Nat.le_trans sB GB.out.size
  clear hwb H0 V0 BX k0 k1 k2 k3 k4 k5 n0 n1
  have k0 := BXB.out.cell 0
  have k1 := BXB.out.cell 1
  have k2 := BXB.out.cell 2
  have k3 := BXB.out.cell 3
  have k4 := BXB.out.cell 4
  have k5 := BXB.out.cell 5
  have n0 := HD.out.blk.cell 0
  have n1 := HD.out.blk.cell 1
  simp only [gA, gZ, gC] at k0 k1 k2 k3 k4 k5 n0 n1
  go_wp2_with fail
  refine (close_any o0 (kk true) B N wb (d.ge true) (d.x true) (HD.out.e true) (IV.out.ok true) hN sBb).mono ?_
  rintro e w2 ⟨q, rfl, hc⟩
  have R := hid (DuR.call hN SB.out HD.out IV.out hc)
  clear hc
  go_wp2_with fail
  go_ret
  exact ⟨_, rfl, R.out⟩
set_option maxHeartbeats 16000000 in
set_option maxRecDepth 100000 in
theorem do_k5 (o : Nat → Nat) (B : Nat) (w : World) (gd N : Nat) (d : DuV) (wl : List (Int × Ev)) (s : Bool) (n bit mask : Int) (v : Value) (l : List Int) (h : DuS o B w gd d) (hi : DInv (fun _ => N) d wl) (hN : N + 500000 ≤ 40000000) (hB : B ≤ w.heap.size) (hv : BV w (frozen o) v l) (hl : l.length ≤ 1000000) :
  Calls Tryz.prog 31 #[.pointer (some ⟨gd, 0, none⟩), .agg #[.int .i64 5, .int .i64 (sI s), .int .i64 n, .int .i64 bit, .int .u32 mask, v]] w fun e w' => DoR o B w gd N d wl e w' := by
 obtain ⟨Av, cv, rfl, _, _⟩ := hv.len
 obtain ⟨w0, hw0⟩ := lx (w.alloc (.cells #[.int .i64 5, .int .i64 (sI s), .int .i64 n, .int .i64 bit, .int .u32 mask, .slice Av l.length cv] 61))
 obtain ⟨gs, hgs⟩ := lx (w.heap.size)
 have B0 : Hid (Below w.heap.size w w0) := hid (by rw [hw0]; exact ba)
 have BX : Hid (Blk w0 gs #[.int .i64 5, .int .i64 (sI s), .int .i64 n, .int .i64 bit, .int .u32 mask, .slice Av l.length cv] 61) := hid (by rw [hw0, hgs]; exact Blk.new _ _ _)
 have S0 : Hid (Stp (fun _ => False) o (scr o w.heap.size 0) w w0) := hid ⟨Frm.of_below B0.out, scr_agr _ _ _⟩
 have og : scr o w.heap.size 0 gs = 0 := by rw [hgs]; exact scr_new (Nat.le_refl _)
 obtain ⟨o0, ho0⟩ := lx (scr o w.heap.size 0)
 rw [← ho0] at S0 og
 have H0 := hid (h.frm S0.out (fun h => h) (fun _ h => h.elim))
 have V0 : Hid (BV w0 (frozen o0) (.slice Av l.length cv) l) := hid (BV.stpK hv S0.out (fun h => h))
 have IV := hid hi
 have hw0' := hw0.symm
 have hgs' := hgs.symm
 have sB : B ≤ w0.heap.size := Nat.le_trans hB B0.out.size
 have k0 := BX.out.cell 0
 have k1 := BX.out.cell 1
 have k2 := BX.out.cell 2
 have k3 := BX.out.cell 3
 have k4 := BX.out.cell 4
 have k5 := BX.out.cell 5
 have n0 := H0.out.blk.cell 0
 have n1 := H0.out.blk.cell 1
 simp only [gA, gZ, gC] at k0 k1 k2 k3 k4 k5 n0 n1
 clear h hi hv hw0 hgs ho0
 cases s
 case false =>
  have e0 : sI false = 0 := rfl
  rw [e0] at hw0' k1 BX ⊢
  clear e0
  go_enter Tryz.func31, Tryz.ntmps31
  go_wp2_with fail
  clear hw0' hgs'
  go_quiet (fail)
  obtain ⟨wb, hwb⟩ := lx (w0.drewN nq)
  rw [← hwb]
  have GB : Hid (Below w0.heap.size w0 wb) := hid (by rw [hwb]; exact below_drewN (Below.refl _ _) _)
  have SB : Hid (Stp (fun _ => False) o o0 w wb) := hid (S0.out.trans (Stp.below GB.out))
  have HD := hid (H0.out.below GB.out)
  have VB := hid (V0.out.below GB.out)
  have BXB := hid (BX.out.below GB.out)
  have sBb : B ≤ wb.heap.size := Nat.le_trans sB GB.out.size
  clear hwb H0 V0 BX k0 k1 k2 k3 k4 k5 n0 n1
  have k0 := BXB.out.cell 0
  have k1 := BXB.out.cell 1
  have k2 := BXB.out.cell 2
  have k3 := BXB.out.cell 3
  have k4 := BXB.out.cell 4
  have k5 := BXB.out.cell 5
  have n0 := HD.out.blk.cell 0
  have n1 := HD.out.blk.cell 1
  simp only [gA, gZ, gC] at k0 k1 k2 k3 k4 k5 n0 n1
  go_wp2_with fail
  refine (eup_any o0 (kk false) B N wb (d.ge false) (d.x false) n (HD.out.e false) (IV.out.ok false) hN sBb).mono ?_
  rintro e w2 ⟨q, rfl, hc⟩
  have R := hid (DuR.call hN SB.out HD.out IV.out hc)
  clear hc
  go_wp2_with fail
  go_ret
  exact ⟨_, rfl, R.out⟩
 case true =>
  have e0 : sI true = 1 := rfl
  rw [e0] at hw0' k1 BX ⊢
  clear e0
  go_enter Tryz.func31, Tryz.ntmps31
  go_wp2_with fail
  clear hw0' hgs'
  go_quiet (fail)
  obtain ⟨wb, hwb⟩ := lx (w0.drewN nq)
  rw [← hwb]
  have GB : Hid (Below w0.heap.size w0 wb) := hid (by rw [hwb]; exact below_drewN (Below.refl _ _) _)
  have SB : Hid (Stp (fun _ => False) o o0 w wb) := hid (S0.out.trans (Stp.below GB.out))
  have HD := hid (H0.out.below GB.out)
  have VB := hid (V0.out.below GB.out)
  have BXB := hid (BX.out.below GB.out)
  have sBb : B ≤ wb.heap.size := Nat.le_trans sB GB.out.size
  clear hwb H0 V0 BX k0 k1 k2 k3 k4 k5 n0 n1
  have k0 := BXB.out.cell 0
  have k1 := BXB.out.cell 1
  have k2 := BXB.out.cell 2
  have k3 := BXB.out.cell 3
  have k4 := BXB.out.cell 4
  have k5 := BXB.out.cell 5
  have n0 := HD.out.blk.cell 0
  have n1 := HD.out.blk.cell 1
  simp only [gA, gZ, gC] at k0 k1 k2 k3 k4 k5 n0 n1
  go_wp2_with fail
  refine (eup_any o0 (kk true) B N wb (d.ge true) (d.x true) n (HD.out.e true) (IV.out.ok true) hN sBb).mono ?_
  rintro e w2 ⟨q, rfl, hc⟩
  have R := hid (DuR.call hN SB.out HD.out IV.out hc)
  clear hc
  go_wp2_with fail
  go_ret
  exact ⟨_, rfl, R.out⟩
set_option maxHeartbeats 16000000 in
set_option maxRecDepth 100000 in
theorem do_k6 (o : Nat → Nat) (B : Nat) (w : World) (gd N : Nat) (d : DuV) (wl : List (Int × Ev)) (s : Bool) (n bit mask : Int) (v : Value) (l : List Int) (h : DuS o B w gd d) (hi : DInv (fun _ => N) d wl) (hN : N + 500000 ≤ 40000000) (hB : B ≤ w.heap.size) (hv : BV w (frozen o) v l) (hl : l.length ≤ 1000000) :
  Calls Tryz.prog 31 #[.pointer (some ⟨gd, 0, none⟩), .agg #[.int .i64 6, .int .i64 (sI s), .int .i64 n, .int .i64 bit, .int .u32 mask, v]] w fun e w' => DoR o B w gd N d wl e w' := by
 obtain ⟨Av, cv, rfl, _, _⟩ := hv.len
 obtain ⟨w0, hw0⟩ := lx (w.alloc (.cells #[.int .i64 6, .int .i64 (sI s), .int .i64 n, .int .i64 bit, .int .u32 mask, .slice Av l.length cv] 61))
 obtain ⟨gs, hgs⟩ := lx (w.heap.size)
 have B0 : Hid (Below w.heap.size w w0) := hid (by rw [hw0]; exact ba)
 have BX : Hid (Blk w0 gs #[.int .i64 6, .int .i64 (sI s), .int .i64 n, .int .i64 bit, .int .u32 mask, .slice Av l.length cv] 61) := hid (by rw [hw0, hgs]; exact Blk.new _ _ _)
 have S0 : Hid (Stp (fun _ => False) o (scr o w.heap.size 0) w w0) := hid ⟨Frm.of_below B0.out, scr_agr _ _ _⟩
 have og : scr o w.heap.size 0 gs = 0 := by rw [hgs]; exact scr_new (Nat.le_refl _)
 obtain ⟨o0, ho0⟩ := lx (scr o w.heap.size 0)
 rw [← ho0] at S0 og
 have H0 := hid (h.frm S0.out (fun h => h) (fun _ h => h.elim))
 have V0 : Hid (BV w0 (frozen o0) (.slice Av l.length cv) l) := hid (BV.stpK hv S0.out (fun h => h))
 have IV := hid hi
 have hw0' := hw0.symm
 have hgs' := hgs.symm
 have sB : B ≤ w0.heap.size := Nat.le_trans hB B0.out.size
 have k0 := BX.out.cell 0
 have k1 := BX.out.cell 1
 have k2 := BX.out.cell 2
 have k3 := BX.out.cell 3
 have k4 := BX.out.cell 4
 have k5 := BX.out.cell 5
 have n0 := H0.out.blk.cell 0
 have n1 := H0.out.blk.cell 1
 simp only [gA, gZ, gC] at k0 k1 k2 k3 k4 k5 n0 n1
 clear h hi hv hw0 hgs ho0
 cases s
 case false =>
  have e0 : sI false = 0 := rfl
  rw [e0] at hw0' k1 BX ⊢
  clear e0
  go_enter Tryz.func31, Tryz.ntmps31
  go_wp2_with fail
  clear hw0' hgs'
  go_quiet (fail)
  obtain ⟨wb, hwb⟩ := lx (w0.drewN nq)
  rw [← hwb]
  have GB : Hid (Below w0.heap.size w0 wb) := hid (by rw [hwb]; exact below_drewN (Below.refl _ _) _)
  have SB : Hid (Stp (fun _ => False) o o0 w wb) := hid (S0.out.trans (Stp.below GB.out))
  have HD := hid (H0.out.below GB.out)
  have VB := hid (V0.out.below GB.out)
  have BXB := hid (BX.out.below GB.out)
  have sBb : B ≤ wb.heap.size := Nat.le_trans sB GB.out.size
  clear hwb H0 V0 BX k0 k1 k2 k3 k4 k5 n0 n1
  have k0 := BXB.out.cell 0
  have k1 := BXB.out.cell 1
  have k2 := BXB.out.cell 2
  have k3 := BXB.out.cell 3
  have k4 := BXB.out.cell 4
  have k5 := BXB.out.cell 5
  have n0 := HD.out.blk.cell 0
  have n1 := HD.out.blk.cell 1
  simp only [gA, gZ, gC] at k0 k1 k2 k3 k4 k5 n0 n1
  go_wp2_with fail
  refine (edown_any o0 (kk false) B N wb (d.ge false) (d.x false) n (HD.out.e false) (IV.out.ok false) hN sBb).mono ?_
  rintro e w2 ⟨q, rfl, hc⟩
  have R := hid (DuR.call hN SB.out HD.out IV.out hc)
  clear hc
  go_wp2_with fail
  go_ret
  exact ⟨_, rfl, R.out⟩
 case true =>
  have e0 : sI true = 1 := rfl
  rw [e0] at hw0' k1 BX ⊢
  clear e0
  go_enter Tryz.func31, Tryz.ntmps31
  go_wp2_with fail
  clear hw0' hgs'
  go_quiet (fail)
  obtain ⟨wb, hwb⟩ := lx (w0.drewN nq)
  rw [← hwb]
  have GB : Hid (Below w0.heap.size w0 wb) := hid (by rw [hwb]; exact below_drewN (Below.refl _ _) _)
  have SB : Hid (Stp (fun _ => False) o o0 w wb) := hid (S0.out.trans (Stp.below GB.out))
  have HD := hid (H0.out.below GB.out)
  have VB := hid (V0.out.below GB.out)
  have BXB := hid (BX.out.below GB.out)
  have sBb : B ≤ wb.heap.size := Nat.le_trans sB GB.out.size
  clear hwb H0 V0 BX k0 k1 k2 k3 k4 k5 n0 n1
  have k0 := BXB.out.cell 0
  have k1 := BXB.out.cell 1
  have k2 := BXB.out.cell 2
  have k3 := BXB.out.cell 3
  have k4 := BXB.out.cell 4
  have k5 := BXB.out.cell 5
  have n0 := HD.out.blk.cell 0
  have n1 := HD.out.blk.cell 1
  simp only [gA, gZ, gC] at k0 k1 k2 k3 k4 k5 n0 n1
  go_wp2_with fail
  refine (edown_any o0 (kk true) B N wb (d.ge true) (d.x true) n (HD.out.e true) (IV.out.ok true) hN sBb).mono ?_
  rintro e w2 ⟨q, rfl, hc⟩
  have R := hid (DuR.call hN SB.out HD.out IV.out hc)
  clear hc
  go_wp2_with fail
  go_ret
  exact ⟨_, rfl, R.out⟩
end
end Go.Proofs.YtdneakejlbabeaaGreat
