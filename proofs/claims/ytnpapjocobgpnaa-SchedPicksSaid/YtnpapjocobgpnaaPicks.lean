/- Proved: SchedPicks returns true for every input, and leaves its arguments as they were; no further condition.
   The frame around the walk was written by the guide's proof-skeleton program. -/
import Derived.Test.YtnpapjocobgpnaaRows
import Derived.Test.YtnpapjocobgpnaaPm
import Derived.BigQuiet
import Derived.WalkKit
import Derived.ProofKit
import Derived.OpenShut
import Derived.ShutString
import Derived.ChangeOld
import Derived.Below
import Derived.Deep.Matrix
namespace Go.Proofs.Ytnpapjocobgpnaa.schedPicks
open Go.ChangeShapes Go.WideShapes Go.ChangeAt Go.RowKit
open Go.ChangeMaps (open_string shut_string)
set_option linter.unusedVariables false

theorem own : ownKnob Try.prog.godebug = none := by kernel_rfl
theorem laidOut : laidOutB Try.prog = true := by kernel_rfl

/-- What the walk is told of the rows: nil; or 'cap' cells, each a slice of integers (nil with the address none). -/
def IsRows (w : World) (a : Option Addr) (len cap : Nat) : Prop :=
  (a = none ∧ len = 0 ∧ cap = 0) ∨
  ∃ (x : Addr) (A : Nat → Option Addr) (L C : Nat → Nat) (Z : Nat → List Int), a = some x ∧ len ≤ cap ∧ cap ≤ maxLen ∧
    ∀ r, r < cap → w.cell? (x.add r) = some (.slice (A r) (L r) (C r)) ∧ L r ≤ C r ∧ C r ≤ maxLen ∧ (Z r).length = C r ∧ (A r = none → C r = 0) ∧
      ∀ a', A r = some a' → ∀ c, c < C r → w.cell? (a'.add c) = some (.int .i64 ((Z r).getD c 0))

/-! ### STEP 1: THE WALK: the Go text returns true, AND WRITES NOTHING THAT WAS THERE: 'Below w.heap.size w w'' (Derived/Below.lean: '.refl', '.alloc', '.drew', '.setCell' at a new block, '.trans'). Open each 'IsRow' by 'rcases' AHEAD of 'go_enter'; part every test ahead of the walk. -/
set_option maxHeartbeats 16000000 in
set_option maxRecDepth 100000 in
theorem walk (a0 : Int) (a1 : Option Addr) (len1 cap1 : Nat) (w : World) (w0 : (Lit.int .i64 a0).wf = true) (w1 : IsRows w a1 len1 cap1) :
    Calls Try.prog 4 #[.int .i64 a0, .slice a1 len1 cap1] w fun e w' => e = .returned (.bool true) ∧ Below w.heap.size w w' := by
  have HI := Lib.hid Try.info3
  clear w0
  have HROW : Hid (∀ r, r < len1 → ∃ (x : Addr) (A : Option Addr) (L C : Nat) (zs : List Int), a1 = some x ∧ w.cell? (x.add r) = some (.slice A L C) ∧ Sl w 1 (.slice A L C) L (i64s zs)) := by
    refine Lib.hid (fun r hr => ?_)
    rcases w1 with ⟨_, h, _⟩ | ⟨x, A, L, C, Z, rfl, hl, hm, hrow⟩
    · omega
    · obtain ⟨e1, e2, e3, e4, e5, e6⟩ := hrow r (by omega)
      exact ⟨x, A r, L r, C r, (Z r).take (L r), rfl, e1, row_sl e2 e3 e4 e5 e6⟩
  have hl1 : len1 ≤ maxLen := by
    rcases w1 with ⟨_, h, _⟩ | ⟨x, A, L, C, Z, rfl, hl, hm, hrow⟩
    · rw [h]; exact Nat.zero_le _
    · omega
  clear w1
  by_cases ht : a0.tmod 5 = 4
  · obtain ⟨kd, hkd⟩ : ∃ kd, kd = a0 := ⟨_, rfl⟩
    subst hkd
    go_enter Try.func4, Try.ntmps4
    go_wp2_with fail
    refine (new_any _ _).mono ?_
    rintro e w1 ⟨gs, rfl, hgs, hs, hb1⟩
    have HS1 := Lib.hid hs
    have HB1 := Lib.hid hb1
    have s1 : w.heap.size ≤ w1.heap.size := hb1.size
    clear hs hb1
    go_wp2_with fail
    refine (refnew_any _ _).mono ?_
    rintro e w2 ⟨gr, rfl, hgr, hr, hb2⟩
    have HS2 := Lib.hid (HS1.out.below hb2)
    have HR2 := Lib.hid hr
    have HB2 := Lib.hid (HB1.out.trans (hb2.mono s1))
    have s2 : w.heap.size ≤ w2.heap.size := Nat.le_trans s1 hb2.size
    have hgsl := HS1.out.lt
    have hlq : w1.heap.size ≤ w2.heap.size := hb2.size
    have hsr : gs ≠ gr := by omega
    clear hr hb2 HS1 HB1
    go_wp2_with fail
    go_loopw [7, 8, 9, 10, 11] (fun i _ _ _ _ wr => ∃ (j : Nat) (nx : Int), j ≤ 16 ∧ i = .int .i64 j ∧ Sch wr gs kd nx ∧ Rch wr gr kd (nx - 1) ∧ Below w.heap.size w wr) (fun i _ _ _ _ _ => 16 - (intOf i).toNat)
    case atStart => exact ⟨0, 0, by omega, rfl, HS2.out, HR2.out, HB2.out⟩
    case round =>
      obtain ⟨j, nx, hj, rfl, hs, hr, hb⟩ := hrel
      clear HS2 HR2 HB2
      obtain ⟨W0, hW0⟩ : ∃ W, W = wr := ⟨_, rfl⟩
      subst hW0
      have HS := Lib.hid hs
      have HR := Lib.hid hr
      have HB := Lib.hid hb
      have iwj : IntKind.i64.wrap ((j : Int) + 1) = (j : Int) + 1 := IntWalk.i64_in _ ⟨by omega, by omega⟩
      clear hs hr hb
      by_cases hjl : j < len1
      · have j1 : (j : Int) < (len1 : Int) := by omega
        by_cases hj16 : j < 16
        · have j2 : (j : Int) < 16 := by omega
          have j0 : (0 : Int) ≤ (j : Int) := by omega
          obtain ⟨x, A, L, C, zs, rfl, cr, sl⟩ := HROW.out j hjl
          have cr2 := (HB.out.cell (World.block_lt_of_cell? w _ cr)).trans cr
          have HZ := Lib.hid (sl.below HB.out)
          have HCR := Lib.hid cr2
          obtain ⟨b0, hb0⟩ : ∃ b, b = W0.heap.size := ⟨_, rfl⟩
          have bs : gs < b0 := by rw [hb0]; exact HS.out.lt
          have br : gr < b0 := by rw [hb0]; exact HR.out.lt
          have bw : w.heap.size ≤ b0 := by rw [hb0]; exact HB.out.size
          clear cr cr2 sl
          go_wp2_with fail
          go_loopw [8, 9, 10] (fun v i _ wq => ∃ (d : Nat) (ms : List Int), d ≤ 4 ∧ i = .int .i64 d ∧ ms.length = d ∧ wq.ownsRow b0 3 1 v d (i64s ms) ∧ Below b0 W0 wq) (fun _ i _ _ => 4 - (intOf i).toNat)
          case atStart => exact ⟨0, [], by omega, rfl, rfl, World.ownsRow_nil _ _ _ _, hb0 ▸ Below.refl _ _⟩
          case round =>
            obtain ⟨d, ms, hd, rfl, hms, ho, hbq⟩ := hrel
            have BM := Lib.hid ho
            have HBQ := Lib.hid hbq
            have hsz : b0 ≤ wr.heap.size := by rw [hb0]; exact hbq.size
            have iwd : IntKind.i64.wrap ((d : Int) + 1) = (d : Int) + 1 := IntWalk.i64_in _ ⟨by omega, by omega⟩
            have cr := (hbq.cell (by rw [hb0]; exact World.block_lt_of_cell? W0 _ HCR.out)).trans HCR.out
            clear ho hbq
            by_cases hdL : d < L
            · have d1 : (d : Int) < (L : Int) := by omega
              by_cases hd4 : d < 4
              · have d2 : (d : Int) < 4 := by omega
                have d0 : (0 : Int) ≤ (d : Int) := by omega
                obtain ⟨ad, rfl, cz⟩ := HZ.out.at_ hdL
                rw [i64s_getD _ _ (by rw [sl_len HZ.out]; exact hdL)] at cz
                have cz := (HBQ.out.cell (by rw [hb0]; exact World.block_lt_of_cell? W0 _ cz)).trans cz
                obtain ⟨z, hz⟩ : ∃ z, z = zs.getD d 0 := ⟨_, rfl⟩
                rw [← hz] at cz
                clear hz
                go_wp2_with fail
                refine (within_any z 9 _ (by omega) (by omega)).mono ?_
                rintro e _ ⟨rfl, rfl⟩
                have iwm : IntKind.i64.wrap (z % 9 - 3) = z % 9 - 3 := IntWalk.i64_in _ ⟨by have := Int.emod_nonneg z (b := 9) (by omega); omega, by have := Int.emod_lt_of_pos z (b := 9) (by omega); omega⟩
                by_cases h10 : z.tmod 11 = 10
                ·
                  go_wp2_with (at_builtin; refine wp_app b0 rfl _ _ 22 3 (.int .i64 0) 1 8 rfl Try.underlying22 HI.out rfl (by omega) (by omega) rfl rfl (BM.out.alloc _) (Sl.one _ _ _ rfl) (by omega) (Nat.le_trans hsz (by simp)) ?_; intro v1 w4 hown hfr hat)
                  have HO1 := Lib.hid hown
                  have HB1 : Hid (Below b0 W0 w4) := Frm.below (HBQ.out.alloc hsz _) hfr (Nat.le_trans hsz (by simp)) (fun g hg => (BM.out.lt g hg).1)
                  clear hown hfr hat
                  go_wp2_with fail
                  go_roundw
                  case rel => exact ⟨d + 1, ms ++ [z], by omega, by go_num, by simpa using hms, by rw [i64s, List.map_append]; exact HO1.out, HB1.out⟩
                  case measure => simp [intOf]; omega
                ·
                  go_wp2_with (at_builtin; refine wp_app b0 rfl _ _ 22 3 (.int .i64 0) 1 8 rfl Try.underlying22 HI.out rfl (by omega) (by omega) rfl rfl (BM.out.alloc _) (Sl.one _ _ _ rfl) (by omega) (Nat.le_trans hsz (by simp)) ?_; intro v1 w4 hown hfr hat)
                  have HO1 := Lib.hid hown
                  have HB1 : Hid (Below b0 W0 w4) := Frm.below (HBQ.out.alloc hsz _) hfr (Nat.le_trans hsz (by simp)) (fun g hg => (BM.out.lt g hg).1)
                  clear hown hfr hat
                  go_wp2_with fail
                  go_roundw
                  case rel => exact ⟨d + 1, ms ++ [z % 9 - 3], by omega, by go_num, by simpa using hms, by rw [i64s, List.map_append]; exact HO1.out, HB1.out⟩
                  case measure => simp [intOf]; omega
              · have d2 : ¬ (d : Int) < 4 := by omega
                obtain ⟨Au, cu, rfl⟩ := own_slice' BM.out
                have SM := Lib.hid (Sl.of_own BM.out (i64s_one _))
                have hju := Lib.hid (fun j (hj : (Value.slice Au d cu).ownBlock = some j) => (BM.out.lt j hj).1)
                have hq : Below W0.heap.size W0 wr := by rw [← hb0]; exact HBQ.out
                have HSq := Lib.hid (Blk.below HS.out hq)
                have HRq := Lib.hid (Blk.below HR.out hq)
                have HBw := Lib.hid (HB.out.trans (hq.mono HB.out.size))
                clear hq BM HBQ HZ HCR
                go_wp2_with fail
                clear cr
                refine (copy_any _ _ d (i64s ms) SM.out (by omega)).mono ?_
                rintro e x1 ⟨vl, rfl, hol, hbl⟩
                obtain ⟨Al, cl, rfl⟩ := own_slice' hol
                have hjl2 := Lib.hid (fun j (hj : (Value.slice Al d cl).ownBlock = some j) => (hol.lt j hj).1)
                have SL1 := Lib.hid (Sl.of_own hol (i64s_one _))
                have SM1 := Lib.hid (SM.out.below hbl)
                have HS1 := Lib.hid (Blk.below HSq.out hbl)
                have HR1 := Lib.hid (Blk.below HRq.out hbl)
                have HB1 := Lib.hid (HBw.out.trans (hbl.mono HBw.out.size))
                clear hol hbl SM HSq HRq HBw
                obtain ⟨pl, hpl⟩ : ∃ pl, pl = pkN kd nx ms := ⟨_, rfl⟩
                obtain ⟨nx', hnx'⟩ : ∃ n, n = nxN kd nx ms := ⟨_, rfl⟩
                have HPL := Lib.hid hpl
                have HNX := Lib.hid hnx'
                clear hpl hnx'
                go_wp2_with fail
                refine (pick_any _ d ms gs kd nx _ SM1.out HS1.out (by omega) (by intro j hj e; subst e; have := hju.out _ hj; omega)).mono ?_
                rintro e x2 ⟨v2, rfl, ho2, hs2, hf2⟩
                rw [← HPL.out] at ho2
                rw [← HNX.out] at hs2
                obtain ⟨A2, c2, rfl⟩ := own_slice' ho2
                have hx1 : w.heap.size ≤ x1.heap.size := HB1.out.size
                have hj2 := Lib.hid (fun j (hj : (Value.slice A2 pl.length c2).ownBlock = some j) => (ho2.lt j hj).1)
                have SP2 := Lib.hid (Sl.of_own ho2 (i64s_one _))
                have SM2 := Lib.hid (SM1.out.frm hf2 (by intro j hj e; subst e; have := hju.out _ hj; omega))
                have SL2 := Lib.hid (SL1.out.frm hf2 (by intro j hj e; subst e; have := hjl2.out _ hj; omega))
                have HR2 := Lib.hid (Blk.frm HR1.out hf2 hsr.symm)
                have HB2 := Lib.hid (Frm.below HB1.out hf2 hx1 (by rintro j rfl; exact hgs))
                have HS2 := Lib.hid hs2
                have hx2 : x1.heap.size ≤ x2.heap.size := hf2.size
                have hrl := HR1.out.lt
                clear ho2 hs2 hf2 SM1 SL1 HR1 HB1 HS1
                go_wp2_with fail
                refine (refpick_any _ d ms gr kd (nx - 1) nx _ SM2.out HR2.out (by omega) (by omega) (by intro j hj e; subst e; have := hju.out _ hj; omega) pl (nx' - 1) HPL.out (by rw [HNX.out])).mono ?_
                rintro e x3 ⟨v3, rfl, ho3, hr3, hf3⟩
                have SP3 := Lib.hid (SP2.out.frm hf3 (by intro j hj e; subst e; have := hj2.out _ hj; omega))
                have SQ3 := Lib.hid (Sl.of_own ho3 (i64s_one _))
                have SM3 := Lib.hid (SM2.out.frm hf3 (by intro j hj e; subst e; have := hju.out _ hj; omega))
                have SL3 := Lib.hid (SL2.out.frm hf3 (by intro j hj e; subst e; have := hjl2.out _ hj; omega))
                have HS3 := Lib.hid (Blk.frm HS2.out hf3 hsr)
                have HB3 := Lib.hid (Frm.below HB2.out hf3 (Nat.le_trans hx1 hx2) (by rintro j rfl; omega))
                have HR3 := Lib.hid hr3
                clear ho3 hr3 hf3 SP2 SM2 SL2 HS2 HB2 HR2
                go_wp2_with fail
                refine (same_any _ _ _ pl.length pl SP3.out SQ3.out).mono ?_
                rintro e _ ⟨rfl, m1, rfl⟩
                go_wp2_with fail
                refine (same_any _ _ _ d ms (SM3.out.drewN m1) (SL3.out.drewN m1)).mono ?_
                rintro e _ ⟨rfl, m2, rfl⟩
                go_wp2_with fail
                go_roundw
                case rel => exact ⟨j + 1, nx', by omega, by go_num, HS3.out, HR3.out, Below.drewN' HB3.out (m1 + m2)⟩
                case measure => simp [intOf]; omega
            · have d1 : ¬ (d : Int) < (L : Int) := by omega
              obtain ⟨Au, cu, rfl⟩ := own_slice' BM.out
              have SM := Lib.hid (Sl.of_own BM.out (i64s_one _))
              have hju := Lib.hid (fun j (hj : (Value.slice Au d cu).ownBlock = some j) => (BM.out.lt j hj).1)
              have hq : Below W0.heap.size W0 wr := by rw [← hb0]; exact HBQ.out
              have HSq := Lib.hid (Blk.below HS.out hq)
              have HRq := Lib.hid (Blk.below HR.out hq)
              have HBw := Lib.hid (HB.out.trans (hq.mono HB.out.size))
              clear hq BM HBQ HZ HCR
              go_wp2_with fail
              clear cr
              refine (copy_any _ _ d (i64s ms) SM.out (by omega)).mono ?_
              rintro e x1 ⟨vl, rfl, hol, hbl⟩
              obtain ⟨Al, cl, rfl⟩ := own_slice' hol
              have hjl2 := Lib.hid (fun j (hj : (Value.slice Al d cl).ownBlock = some j) => (hol.lt j hj).1)
              have SL1 := Lib.hid (Sl.of_own hol (i64s_one _))
              have SM1 := Lib.hid (SM.out.below hbl)
              have HS1 := Lib.hid (Blk.below HSq.out hbl)
              have HR1 := Lib.hid (Blk.below HRq.out hbl)
              have HB1 := Lib.hid (HBw.out.trans (hbl.mono HBw.out.size))
              clear hol hbl SM HSq HRq HBw
              obtain ⟨pl, hpl⟩ : ∃ pl, pl = pkN kd nx ms := ⟨_, rfl⟩
              obtain ⟨nx', hnx'⟩ : ∃ n, n = nxN kd nx ms := ⟨_, rfl⟩
              have HPL := Lib.hid hpl
              have HNX := Lib.hid hnx'
              clear hpl hnx'
              go_wp2_with fail
              refine (pick_any _ d ms gs kd nx _ SM1.out HS1.out (by omega) (by intro j hj e; subst e; have := hju.out _ hj; omega)).mono ?_
              rintro e x2 ⟨v2, rfl, ho2, hs2, hf2⟩
              rw [← HPL.out] at ho2
              rw [← HNX.out] at hs2
              obtain ⟨A2, c2, rfl⟩ := own_slice' ho2
              have hx1 : w.heap.size ≤ x1.heap.size := HB1.out.size
              have hj2 := Lib.hid (fun j (hj : (Value.slice A2 pl.length c2).ownBlock = some j) => (ho2.lt j hj).1)
              have SP2 := Lib.hid (Sl.of_own ho2 (i64s_one _))
              have SM2 := Lib.hid (SM1.out.frm hf2 (by intro j hj e; subst e; have := hju.out _ hj; omega))
              have SL2 := Lib.hid (SL1.out.frm hf2 (by intro j hj e; subst e; have := hjl2.out _ hj; omega))
              have HR2 := Lib.hid (Blk.frm HR1.out hf2 hsr.symm)
              have HB2 := Lib.hid (Frm.below HB1.out hf2 hx1 (by rintro j rfl; exact hgs))
              have HS2 := Lib.hid hs2
              have hx2 : x1.heap.size ≤ x2.heap.size := hf2.size
              have hrl := HR1.out.lt
              clear ho2 hs2 hf2 SM1 SL1 HR1 HB1 HS1
              go_wp2_with fail
              refine (refpick_any _ d ms gr kd (nx - 1) nx _ SM2.out HR2.out (by omega) (by omega) (by intro j hj e; subst e; have := hju.out _ hj; omega) pl (nx' - 1) HPL.out (by rw [HNX.out])).mono ?_
              rintro e x3 ⟨v3, rfl, ho3, hr3, hf3⟩
              have SP3 := Lib.hid (SP2.out.frm hf3 (by intro j hj e; subst e; have := hj2.out _ hj; omega))
              have SQ3 := Lib.hid (Sl.of_own ho3 (i64s_one _))
              have SM3 := Lib.hid (SM2.out.frm hf3 (by intro j hj e; subst e; have := hju.out _ hj; omega))
              have SL3 := Lib.hid (SL2.out.frm hf3 (by intro j hj e; subst e; have := hjl2.out _ hj; omega))
              have HS3 := Lib.hid (Blk.frm HS2.out hf3 hsr)
              have HB3 := Lib.hid (Frm.below HB2.out hf3 (Nat.le_trans hx1 hx2) (by rintro j rfl; omega))
              have HR3 := Lib.hid hr3
              clear ho3 hr3 hf3 SP2 SM2 SL2 HS2 HB2 HR2
              go_wp2_with fail
              refine (same_any _ _ _ pl.length pl SP3.out SQ3.out).mono ?_
              rintro e _ ⟨rfl, m1, rfl⟩
              go_wp2_with fail
              refine (same_any _ _ _ d ms (SM3.out.drewN m1) (SL3.out.drewN m1)).mono ?_
              rintro e _ ⟨rfl, m2, rfl⟩
              go_wp2_with fail
              go_roundw
              case rel => exact ⟨j + 1, nx', by omega, by go_num, HS3.out, HR3.out, Below.drewN' HB3.out (m1 + m2)⟩
              case measure => simp [intOf]; omega
        · have j2 : ¬ (j : Int) < 16 := by omega
          go_wp2_with fail
          refine (wakes_any _).mono ?_
          rintro e x5 ⟨rfl, hbk⟩
          have HB5 := Lib.hid (HB.out.trans (hbk.mono HB.out.size))
          clear hbk
          go_wp2_with fail
          go_ret
          exact ⟨rfl, HB5.out⟩
      · have j1 : ¬ (j : Int) < (len1 : Int) := by omega
        go_wp2_with fail
        refine (wakes_any _).mono ?_
        rintro e x5 ⟨rfl, hbk⟩
        have HB5 := Lib.hid (HB.out.trans (hbk.mono HB.out.size))
        clear hbk
        go_wp2_with fail
        go_ret
        exact ⟨rfl, HB5.out⟩
  · go_enter Try.func4, Try.ntmps4
    go_wp2_with fail
    refine (within_any a0 3 _ (by omega) (by omega)).mono ?_
    rintro e _ ⟨rfl, rfl⟩
    obtain ⟨kd, hkd⟩ : ∃ kd, kd = 1 + a0 % 3 := ⟨_, rfl⟩
    have iwk : IntKind.i64.wrap (1 + a0 % 3) = kd := by rw [hkd]; exact IntWalk.i64_in _ ⟨by have := Int.emod_nonneg a0 (b := 3) (by omega); omega, by have := Int.emod_lt_of_pos a0 (b := 3) (by omega); omega⟩
    clear hkd
    go_wp2_with fail
    refine (new_any _ _).mono ?_
    rintro e w1 ⟨gs, rfl, hgs, hs, hb1⟩
    have HS1 := Lib.hid hs
    have HB1 := Lib.hid hb1
    have s1 : w.heap.size ≤ w1.heap.size := hb1.size
    clear hs hb1
    go_wp2_with fail
    refine (refnew_any _ _).mono ?_
    rintro e w2 ⟨gr, rfl, hgr, hr, hb2⟩
    have HS2 := Lib.hid (HS1.out.below hb2)
    have HR2 := Lib.hid hr
    have HB2 := Lib.hid (HB1.out.trans (hb2.mono s1))
    have s2 : w.heap.size ≤ w2.heap.size := Nat.le_trans s1 hb2.size
    have hgsl := HS1.out.lt
    have hlq : w1.heap.size ≤ w2.heap.size := hb2.size
    have hsr : gs ≠ gr := by omega
    clear hr hb2 HS1 HB1
    go_wp2_with fail
    go_loopw [7, 8, 9, 10, 11] (fun i _ _ _ _ wr => ∃ (j : Nat) (nx : Int), j ≤ 16 ∧ i = .int .i64 j ∧ Sch wr gs kd nx ∧ Rch wr gr kd (nx - 1) ∧ Below w.heap.size w wr) (fun i _ _ _ _ _ => 16 - (intOf i).toNat)
    case atStart => exact ⟨0, 0, by omega, rfl, HS2.out, HR2.out, HB2.out⟩
    case round =>
      obtain ⟨j, nx, hj, rfl, hs, hr, hb⟩ := hrel
      clear HS2 HR2 HB2
      obtain ⟨W0, hW0⟩ : ∃ W, W = wr := ⟨_, rfl⟩
      subst hW0
      have HS := Lib.hid hs
      have HR := Lib.hid hr
      have HB := Lib.hid hb
      have iwj : IntKind.i64.wrap ((j : Int) + 1) = (j : Int) + 1 := IntWalk.i64_in _ ⟨by omega, by omega⟩
      clear hs hr hb
      by_cases hjl : j < len1
      · have j1 : (j : Int) < (len1 : Int) := by omega
        by_cases hj16 : j < 16
        · have j2 : (j : Int) < 16 := by omega
          have j0 : (0 : Int) ≤ (j : Int) := by omega
          obtain ⟨x, A, L, C, zs, rfl, cr, sl⟩ := HROW.out j hjl
          have cr2 := (HB.out.cell (World.block_lt_of_cell? w _ cr)).trans cr
          have HZ := Lib.hid (sl.below HB.out)
          have HCR := Lib.hid cr2
          obtain ⟨b0, hb0⟩ : ∃ b, b = W0.heap.size := ⟨_, rfl⟩
          have bs : gs < b0 := by rw [hb0]; exact HS.out.lt
          have br : gr < b0 := by rw [hb0]; exact HR.out.lt
          have bw : w.heap.size ≤ b0 := by rw [hb0]; exact HB.out.size
          clear cr cr2 sl
          go_wp2_with fail
          go_loopw [8, 9, 10] (fun v i _ wq => ∃ (d : Nat) (ms : List Int), d ≤ 4 ∧ i = .int .i64 d ∧ ms.length = d ∧ wq.ownsRow b0 3 1 v d (i64s ms) ∧ Below b0 W0 wq) (fun _ i _ _ => 4 - (intOf i).toNat)
          case atStart => exact ⟨0, [], by omega, rfl, rfl, World.ownsRow_nil _ _ _ _, hb0 ▸ Below.refl _ _⟩
          case round =>
            obtain ⟨d, ms, hd, rfl, hms, ho, hbq⟩ := hrel
            have BM := Lib.hid ho
            have HBQ := Lib.hid hbq
            have hsz : b0 ≤ wr.heap.size := by rw [hb0]; exact hbq.size
            have iwd : IntKind.i64.wrap ((d : Int) + 1) = (d : Int) + 1 := IntWalk.i64_in _ ⟨by omega, by omega⟩
            have cr := (hbq.cell (by rw [hb0]; exact World.block_lt_of_cell? W0 _ HCR.out)).trans HCR.out
            clear ho hbq
            by_cases hdL : d < L
            · have d1 : (d : Int) < (L : Int) := by omega
              by_cases hd4 : d < 4
              · have d2 : (d : Int) < 4 := by omega
                have d0 : (0 : Int) ≤ (d : Int) := by omega
                obtain ⟨ad, rfl, cz⟩ := HZ.out.at_ hdL
                rw [i64s_getD _ _ (by rw [sl_len HZ.out]; exact hdL)] at cz
                have cz := (HBQ.out.cell (by rw [hb0]; exact World.block_lt_of_cell? W0 _ cz)).trans cz
                obtain ⟨z, hz⟩ : ∃ z, z = zs.getD d 0 := ⟨_, rfl⟩
                rw [← hz] at cz
                clear hz
                go_wp2_with fail
                refine (within_any z 9 _ (by omega) (by omega)).mono ?_
                rintro e _ ⟨rfl, rfl⟩
                have iwm : IntKind.i64.wrap (z % 9 - 3) = z % 9 - 3 := IntWalk.i64_in _ ⟨by have := Int.emod_nonneg z (b := 9) (by omega); omega, by have := Int.emod_lt_of_pos z (b := 9) (by omega); omega⟩
                by_cases h10 : z.tmod 11 = 10
                ·
                  go_wp2_with (at_builtin; refine wp_app b0 rfl _ _ 22 3 (.int .i64 0) 1 8 rfl Try.underlying22 HI.out rfl (by omega) (by omega) rfl rfl (BM.out.alloc _) (Sl.one _ _ _ rfl) (by omega) (Nat.le_trans hsz (by simp)) ?_; intro v1 w4 hown hfr hat)
                  have HO1 := Lib.hid hown
                  have HB1 : Hid (Below b0 W0 w4) := Frm.below (HBQ.out.alloc hsz _) hfr (Nat.le_trans hsz (by simp)) (fun g hg => (BM.out.lt g hg).1)
                  clear hown hfr hat
                  go_wp2_with fail
                  go_roundw
                  case rel => exact ⟨d + 1, ms ++ [z], by omega, by go_num, by simpa using hms, by rw [i64s, List.map_append]; exact HO1.out, HB1.out⟩
                  case measure => simp [intOf]; omega
                ·
                  go_wp2_with (at_builtin; refine wp_app b0 rfl _ _ 22 3 (.int .i64 0) 1 8 rfl Try.underlying22 HI.out rfl (by omega) (by omega) rfl rfl (BM.out.alloc _) (Sl.one _ _ _ rfl) (by omega) (Nat.le_trans hsz (by simp)) ?_; intro v1 w4 hown hfr hat)
                  have HO1 := Lib.hid hown
                  have HB1 : Hid (Below b0 W0 w4) := Frm.below (HBQ.out.alloc hsz _) hfr (Nat.le_trans hsz (by simp)) (fun g hg => (BM.out.lt g hg).1)
                  clear hown hfr hat
                  go_wp2_with fail
                  go_roundw
                  case rel => exact ⟨d + 1, ms ++ [z % 9 - 3], by omega, by go_num, by simpa using hms, by rw [i64s, List.map_append]; exact HO1.out, HB1.out⟩
                  case measure => simp [intOf]; omega
              · have d2 : ¬ (d : Int) < 4 := by omega
                obtain ⟨Au, cu, rfl⟩ := own_slice' BM.out
                have SM := Lib.hid (Sl.of_own BM.out (i64s_one _))
                have hju := Lib.hid (fun j (hj : (Value.slice Au d cu).ownBlock = some j) => (BM.out.lt j hj).1)
                have hq : Below W0.heap.size W0 wr := by rw [← hb0]; exact HBQ.out
                have HSq := Lib.hid (Blk.below HS.out hq)
                have HRq := Lib.hid (Blk.below HR.out hq)
                have HBw := Lib.hid (HB.out.trans (hq.mono HB.out.size))
                clear hq BM HBQ HZ HCR
                go_wp2_with fail
                clear cr
                refine (copy_any _ _ d (i64s ms) SM.out (by omega)).mono ?_
                rintro e x1 ⟨vl, rfl, hol, hbl⟩
                obtain ⟨Al, cl, rfl⟩ := own_slice' hol
                have hjl2 := Lib.hid (fun j (hj : (Value.slice Al d cl).ownBlock = some j) => (hol.lt j hj).1)
                have SL1 := Lib.hid (Sl.of_own hol (i64s_one _))
                have SM1 := Lib.hid (SM.out.below hbl)
                have HS1 := Lib.hid (Blk.below HSq.out hbl)
                have HR1 := Lib.hid (Blk.below HRq.out hbl)
                have HB1 := Lib.hid (HBw.out.trans (hbl.mono HBw.out.size))
                clear hol hbl SM HSq HRq HBw
                obtain ⟨pl, hpl⟩ : ∃ pl, pl = pkN kd nx ms := ⟨_, rfl⟩
                obtain ⟨nx', hnx'⟩ : ∃ n, n = nxN kd nx ms := ⟨_, rfl⟩
                have HPL := Lib.hid hpl
                have HNX := Lib.hid hnx'
                clear hpl hnx'
                go_wp2_with fail
                refine (pick_any _ d ms gs kd nx _ SM1.out HS1.out (by omega) (by intro j hj e; subst e; have := hju.out _ hj; omega)).mono ?_
                rintro e x2 ⟨v2, rfl, ho2, hs2, hf2⟩
                rw [← HPL.out] at ho2
                rw [← HNX.out] at hs2
                obtain ⟨A2, c2, rfl⟩ := own_slice' ho2
                have hx1 : w.heap.size ≤ x1.heap.size := HB1.out.size
                have hj2 := Lib.hid (fun j (hj : (Value.slice A2 pl.length c2).ownBlock = some j) => (ho2.lt j hj).1)
                have SP2 := Lib.hid (Sl.of_own ho2 (i64s_one _))
                have SM2 := Lib.hid (SM1.out.frm hf2 (by intro j hj e; subst e; have := hju.out _ hj; omega))
                have SL2 := Lib.hid (SL1.out.frm hf2 (by intro j hj e; subst e; have := hjl2.out _ hj; omega))
                have HR2 := Lib.hid (Blk.frm HR1.out hf2 hsr.symm)
                have HB2 := Lib.hid (Frm.below HB1.out hf2 hx1 (by rintro j rfl; exact hgs))
                have HS2 := Lib.hid hs2
                have hx2 : x1.heap.size ≤ x2.heap.size := hf2.size
                have hrl := HR1.out.lt
                clear ho2 hs2 hf2 SM1 SL1 HR1 HB1 HS1
                go_wp2_with fail
                refine (refpick_any _ d ms gr kd (nx - 1) nx _ SM2.out HR2.out (by omega) (by omega) (by intro j hj e; subst e; have := hju.out _ hj; omega) pl (nx' - 1) HPL.out (by rw [HNX.out])).mono ?_
                rintro e x3 ⟨v3, rfl, ho3, hr3, hf3⟩
                have SP3 := Lib.hid (SP2.out.frm hf3 (by intro j hj e; subst e; have := hj2.out _ hj; omega))
                have SQ3 := Lib.hid (Sl.of_own ho3 (i64s_one _))
                have SM3 := Lib.hid (SM2.out.frm hf3 (by intro j hj e; subst e; have := hju.out _ hj; omega))
                have SL3 := Lib.hid (SL2.out.frm hf3 (by intro j hj e; subst e; have := hjl2.out _ hj; omega))
                have HS3 := Lib.hid (Blk.frm HS2.out hf3 hsr)
                have HB3 := Lib.hid (Frm.below HB2.out hf3 (Nat.le_trans hx1 hx2) (by rintro j rfl; omega))
                have HR3 := Lib.hid hr3
                clear ho3 hr3 hf3 SP2 SM2 SL2 HS2 HB2 HR2
                go_wp2_with fail
                refine (same_any _ _ _ pl.length pl SP3.out SQ3.out).mono ?_
                rintro e _ ⟨rfl, m1, rfl⟩
                go_wp2_with fail
                refine (same_any _ _ _ d ms (SM3.out.drewN m1) (SL3.out.drewN m1)).mono ?_
                rintro e _ ⟨rfl, m2, rfl⟩
                go_wp2_with fail
                go_roundw
                case rel => exact ⟨j + 1, nx', by omega, by go_num, HS3.out, HR3.out, Below.drewN' HB3.out (m1 + m2)⟩
                case measure => simp [intOf]; omega
            · have d1 : ¬ (d : Int) < (L : Int) := by omega
              obtain ⟨Au, cu, rfl⟩ := own_slice' BM.out
              have SM := Lib.hid (Sl.of_own BM.out (i64s_one _))
              have hju := Lib.hid (fun j (hj : (Value.slice Au d cu).ownBlock = some j) => (BM.out.lt j hj).1)
              have hq : Below W0.heap.size W0 wr := by rw [← hb0]; exact HBQ.out
              have HSq := Lib.hid (Blk.below HS.out hq)
              have HRq := Lib.hid (Blk.below HR.out hq)
              have HBw := Lib.hid (HB.out.trans (hq.mono HB.out.size))
              clear hq BM HBQ HZ HCR
              go_wp2_with fail
              clear cr
              refine (copy_any _ _ d (i64s ms) SM.out (by omega)).mono ?_
              rintro e x1 ⟨vl, rfl, hol, hbl⟩
              obtain ⟨Al, cl, rfl⟩ := own_slice' hol
              have hjl2 := Lib.hid (fun j (hj : (Value.slice Al d cl).ownBlock = some j) => (hol.lt j hj).1)
              have SL1 := Lib.hid (Sl.of_own hol (i64s_one _))
              have SM1 := Lib.hid (SM.out.below hbl)
              have HS1 := Lib.hid (Blk.below HSq.out hbl)
              have HR1 := Lib.hid (Blk.below HRq.out hbl)
              have HB1 := Lib.hid (HBw.out.trans (hbl.mono HBw.out.size))
              clear hol hbl SM HSq HRq HBw
              obtain ⟨pl, hpl⟩ : ∃ pl, pl = pkN kd nx ms := ⟨_, rfl⟩
              obtain ⟨nx', hnx'⟩ : ∃ n, n = nxN kd nx ms := ⟨_, rfl⟩
              have HPL := Lib.hid hpl
              have HNX := Lib.hid hnx'
              clear hpl hnx'
              go_wp2_with fail
              refine (pick_any _ d ms gs kd nx _ SM1.out HS1.out (by omega) (by intro j hj e; subst e; have := hju.out _ hj; omega)).mono ?_
              rintro e x2 ⟨v2, rfl, ho2, hs2, hf2⟩
              rw [← HPL.out] at ho2
              rw [← HNX.out] at hs2
              obtain ⟨A2, c2, rfl⟩ := own_slice' ho2
              have hx1 : w.heap.size ≤ x1.heap.size := HB1.out.size
              have hj2 := Lib.hid (fun j (hj : (Value.slice A2 pl.length c2).ownBlock = some j) => (ho2.lt j hj).1)
              have SP2 := Lib.hid (Sl.of_own ho2 (i64s_one _))
              have SM2 := Lib.hid (SM1.out.frm hf2 (by intro j hj e; subst e; have := hju.out _ hj; omega))
              have SL2 := Lib.hid (SL1.out.frm hf2 (by intro j hj e; subst e; have := hjl2.out _ hj; omega))
              have HR2 := Lib.hid (Blk.frm HR1.out hf2 hsr.symm)
              have HB2 := Lib.hid (Frm.below HB1.out hf2 hx1 (by rintro j rfl; exact hgs))
              have HS2 := Lib.hid hs2
              have hx2 : x1.heap.size ≤ x2.heap.size := hf2.size
              have hrl := HR1.out.lt
              clear ho2 hs2 hf2 SM1 SL1 HR1 HB1 HS1
              go_wp2_with fail
              refine (refpick_any _ d ms gr kd (nx - 1) nx _ SM2.out HR2.out (by omega) (by omega) (by intro j hj e; subst e; have := hju.out _ hj; omega) pl (nx' - 1) HPL.out (by rw [HNX.out])).mono ?_
              rintro e x3 ⟨v3, rfl, ho3, hr3, hf3⟩
              have SP3 := Lib.hid (SP2.out.frm hf3 (by intro j hj e; subst e; have := hj2.out _ hj; omega))
              have SQ3 := Lib.hid (Sl.of_own ho3 (i64s_one _))
              have SM3 := Lib.hid (SM2.out.frm hf3 (by intro j hj e; subst e; have := hju.out _ hj; omega))
              have SL3 := Lib.hid (SL2.out.frm hf3 (by intro j hj e; subst e; have := hjl2.out _ hj; omega))
              have HS3 := Lib.hid (Blk.frm HS2.out hf3 hsr)
              have HB3 := Lib.hid (Frm.below HB2.out hf3 (Nat.le_trans hx1 hx2) (by rintro j rfl; omega))
              have HR3 := Lib.hid hr3
              clear ho3 hr3 hf3 SP2 SM2 SL2 HS2 HB2 HR2
              go_wp2_with fail
              refine (same_any _ _ _ pl.length pl SP3.out SQ3.out).mono ?_
              rintro e _ ⟨rfl, m1, rfl⟩
              go_wp2_with fail
              refine (same_any _ _ _ d ms (SM3.out.drewN m1) (SL3.out.drewN m1)).mono ?_
              rintro e _ ⟨rfl, m2, rfl⟩
              go_wp2_with fail
              go_roundw
              case rel => exact ⟨j + 1, nx', by omega, by go_num, HS3.out, HR3.out, Below.drewN' HB3.out (m1 + m2)⟩
              case measure => simp [intOf]; omega
        · have j2 : ¬ (j : Int) < 16 := by omega
          go_wp2_with fail
          refine (wakes_any _).mono ?_
          rintro e x5 ⟨rfl, hbk⟩
          have HB5 := Lib.hid (HB.out.trans (hbk.mono HB.out.size))
          clear hbk
          go_wp2_with fail
          go_ret
          exact ⟨rfl, HB5.out⟩
      · have j1 : ¬ (j : Int) < (len1 : Int) := by omega
        go_wp2_with fail
        refine (wakes_any _).mono ?_
        rintro e x5 ⟨rfl, hbk⟩
        have HB5 := Lib.hid (HB.out.trans (hbk.mono HB.out.size))
        clear hbk
        go_wp2_with fail
        go_ret
        exact ⟨rfl, HB5.out⟩

/-! ### THE ROW's STEP: WRITTEN OUT: LEAVE IT -/
set_option maxRecDepth 100000 in
theorem lifted (os : Os) (started : os.Started) (H : Type) (enc : TypeId × Value → H) :
    ReturnsInHanded {} Try.checked os 4 .any (Rows.schedPicksSpec.pre6 enc Try.prog Try.f4 Rows.schedPicksRow.domain false) (Rows.schedPicksSpec.post enc Try.prog Try.f4 false true false false) := by
  refine returnsInHanded_of_change (C := Try.checked) own started (by kernel_rfl) Try.func4
    (ChangeSpec.witness6 (enc := enc) (C := Try.checked) false ⟨#[], #[.int .i64 0, .slice none 0 0], []⟩ 8 (by kernel_rfl) (by kernel_rfl) (by kernel_rfl) (by kernel_rfl)) ?_
  intro W base args ds gs before hval0 hW hcnd _
  have hval : ∀ (j : Nat) t v, Try.f4.params[j]? = some t → args[j]? = some v → Value.okWide Try.prog W .any base t v := hval0
  have hW' := hW
  obtain ⟨p, q, hA0, hV, rfl, hfz, hnd⟩ := hW
  have hA : DataW.TrodAll enc Try.prog W 0 (fun _ => true) true Try.f4.params.toList args.toList ds p := hA0
  rw [Try.params4] at hA hval
  obtain ⟨v0, vs0, d0, ds0, p0, q0, hargs, rfl, rfl, h0, r0⟩ := trodAll_cons hA
  obtain ⟨v1, vs1, d1, ds1, p1, q1, rfl, rfl, rfl, h1, r1⟩ := trodAll_cons r0
  obtain ⟨rfl, rfl, rfl⟩ := trodAll_nil r1
  obtain rfl : args = #[v0, v1] := by cases args; simp_all
  obtain ⟨rfl, rfl⟩ := trodVars_none hV
  obtain ⟨a0, rfl, rfl, rfl, w0⟩ := open_int Try.underlying3 (hval 0 3 v0 rfl rfl) h0
  obtain ⟨a1, len1, cap1, rfl⟩ := okWide_slice Try.underlying29 (hval 1 29 v1 rfl rfl)
  have k1 := h1
  have lt1 : ∀ x ∈ p1, x.block < W.heap.size := by obtain ⟨m, hm⟩ := k1; exact DataW.trod_lt m _ _ _ hm
  have w1 : IsRows W a1 len1 cap1 := by
    obtain ⟨fuel, hf⟩ := h1
    rcases Go.Deep.open_int_rows Try.underlying29 Try.underlying22 Try.underlying3 (by kernel_rfl) (by kernel_rfl) hf with ⟨hcs, _⟩ | ⟨x, l, c, A, L, C, Z, hcs, _, hl, hm, _, hr⟩
    · simp [Value.cells] at hcs
      obtain ⟨rfl, rfl, rfl⟩ := hcs
      exact .inl ⟨rfl, rfl, rfl⟩
    · simp [Value.cells] at hcs
      obtain ⟨rfl, rfl, rfl⟩ := hcs
      refine .inr ⟨x, A, L, C, Z, rfl, hl, hm, fun r h => ?_⟩
      obtain ⟨e1, e2, e3, e4, _, e6, e7⟩ := hr r h
      exact ⟨e1, e2, e3, e4, e6, fun a' h' => (e7 a' h').2⟩
  clear hA0 hval0
  refine (walk a0 a1 len1 cap1 W w0 w1).mono fun e W' ⟨he, bel⟩ => ?_
  subst he
  exact ⟨_, rfl, _, _, _, [], _, [], hW', trodAll_mk1 (shut_bool Try.underlying4 _), (trodAll_cons_mk (shut_int Try.underlying3 w0) (trodAll_cons_mk (Below.trod laidOut (by kernel_rfl) (of_decide_eq_true (by kernel_rfl)) k1 bel lt1) trodAll_mk0)), rfl, bel.frame _, fun h => by cases h⟩

theorem over : Rows.schedPicksRow.holds Try.pinned (OpenSpec.ofChange Rows.schedPicksSpec) :=
  OpenClaim.holds_of_wide 4 Try.f4 rfl rfl rfl rfl rfl rfl rfl ⟨rfl, rfl, rfl, rfl, rfl⟩ rfl rfl rfl rfl rfl (by kernel_rfl) Try.func4 (by kernel_rfl)
    (of_decide_eq_true (by kernel_rfl)) (by unfold Func.isWrapper; first | (rw [if_pos (by decide +kernel)]; kernel_rfl) | (rw [if_neg (by decide +kernel)]; exact ⟨rfl, rfl⟩))
    (fun os started H enc _ => lifted os started H enc)

/-- ████ THE STATEMENT ████ -/
theorem proved : Rows.SchedPicksSaid := over
#print axioms proved
end Go.Proofs.Ytnpapjocobgpnaa.schedPicks
