/- Proved: SchedGaps returns true for every input, and leaves its arguments as they were; no further condition.
   The frame around the walk was written by the guide's proof-skeleton program. -/
import Derived.Test.YtnpapjocobgpnaaRows
import Derived.Test.YtnpapjocobgpnaaAid
import Derived.BigQuiet
import Derived.WalkKit
import Derived.ProofKit
import Derived.OpenShut
import Derived.ShutString
import Derived.ChangeOld
import Derived.Below
namespace Go.Proofs.Ytnpapjocobgpnaa.schedGaps
open Go.ChangeShapes Go.WideShapes Go.ChangeAt Go.RowKit
open Go.ChangeMaps (open_string shut_string)
set_option linter.unusedVariables false

theorem own : ownKnob Try.prog.godebug = none := by kernel_rfl
theorem laidOut : laidOutB Try.prog = true := by kernel_rfl

/-- WHAT THE WALK IS TOLD OF A SLICE OF INTEGERS THAT CAME IN: it is nil; or it leads to a row of 'cap' cells, the numbers 'zs' (the first 'len' are its elements, the rest its spare room), each fitting its kind. -/
def IsRow (k : IntKind) (w : World) (a : Option Addr) (len cap : Nat) (zs : List Int) : Prop :=
  (a = none ∧ len = 0 ∧ cap = 0 ∧ zs = []) ∨
  ∃ x, a = some x ∧ len ≤ cap ∧ cap ≤ maxLen ∧ zs.length = cap ∧ (∀ i, i < zs.length → w.cell? (x.add i) = some (.int k (zs.getD i 0))) ∧ ∀ n ∈ zs, (Lit.int k n).wf = true

/-! ### STEP 1: THE WALK: the Go text returns true, AND WRITES NOTHING THAT WAS THERE: 'Below w.heap.size w w'' (Derived/Below.lean: '.refl', '.alloc', '.drew', '.setCell' at a new block, '.trans'). Open each 'IsRow' by 'rcases' AHEAD of 'go_enter'; part every test ahead of the walk. -/
set_option maxHeartbeats 16000000 in
set_option maxRecDepth 100000 in
theorem walk (a0 : Int) (a1 : Int) (a2 : Option Addr) (len2 cap2 : Nat) (z2 : List Int) (w : World) (w0 : (Lit.int .i64 a0).wf = true) (w1 : (Lit.int .i64 a1).wf = true) (w2 : IsRow .i64 w a2 len2 cap2 z2) :
    Calls Try.prog 3 #[.int .i64 a0, .int .i64 a1, .slice a2 len2 cap2] w fun e w' => e = .returned (.bool true) ∧ Below w.heap.size w w' := by
  obtain ⟨zs, hzs⟩ := ints_of_row w2
  have HZ := Lib.hid hzs
  have hln : len2 ≤ maxLen := by obtain ⟨_, _, e, h1, h2⟩ := hzs.len; injection e; omega
  clear hzs w0 w1 w2
  go_enter Try.func3, Try.ntmps3
  go_wp2_with fail
  refine (within_any a0 3 _ (by omega) (by omega)).mono ?_
  rintro e _ ⟨rfl, rfl⟩
  obtain ⟨gn, hgn⟩ : ∃ i : Nat, (i : Int) = a0 % 3 := ⟨(a0 % 3).toNat, Int.toNat_of_nonneg (Int.emod_nonneg _ (by omega))⟩
  have hg3 : gn < 3 := by omega
  rw [← hgn]
  clear hgn
  go_wp2_with fail
  refine (within_any a1 6 _ (by omega) (by omega)).mono ?_
  rintro e _ ⟨rfl, rfl⟩
  obtain ⟨R, hR⟩ : ∃ i : Nat, (i : Int) = a1 % 6 := ⟨(a1 % 6).toNat, Int.toNat_of_nonneg (Int.emod_nonneg _ (by omega))⟩
  have hR6 : R < 6 := by omega
  rw [← hR]
  clear hR
  have iwR : IntKind.i64.wrap (1 + (R : Int)) = 1 + (R : Int) := IntWalk.i64_in _ ⟨by omega, by omega⟩
  go_wp2_with fail
  go_loopw [8] (fun i wr => ∃ (j : Nat) (ms : List Int), j ≤ 3 ∧ i = .int .i64 j ∧ ms.length = 3 ∧ (∀ x ∈ ms, 0 ≤ x ∧ x ≤ 1000) ∧ Blk wr w.heap.size (i64s ms).toArray 3 ∧ Below w.heap.size w wr) (fun i _ => 3 - (intOf i).toNat)
  case atStart => exact ⟨0, [4, 4, 4], by omega, rfl, rfl, by simp, Blk.new w _ 3, (Below.refl _ _).alloc (Nat.le_refl _) _⟩
  case round =>
    obtain ⟨j, ms, hj, rfl, hms, hms0, hb, hbl⟩ := hrel
    by_cases hj3 : j < 3
    · by_cases hlt : j < len2
      · obtain ⟨ad, rfl, cz⟩ := (HZ.out.below hbl).at_ hlt
        have hzl := sl_len HZ.out
        rw [i64s_getD _ _ (by omega)] at cz
        obtain ⟨z, hz⟩ : ∃ z, z = zs.getD j 0 := ⟨_, rfl⟩
        rw [← hz] at cz
        have cm := hb.cell j
        have fm := hb.free j
        have cm2 : wr.cell? ⟨w.heap.size, j, none⟩ = some (.int .i64 (ms.getD j 0)) := by
          rw [cm, List.getElem?_toArray]
          simp [i64s, List.getD_eq_getElem?_getD, List.getElem?_eq_getElem (show j < ms.length by omega)]
        have j1 : (j : Int) < (len2 : Int) := by omega
        have j3 : (j : Int) < 3 := by omega
        have j0 : (0 : Int) ≤ (j : Int) := by omega
        have HB := Lib.hid hb
        have HBL := Lib.hid hbl
        have H0 := Lib.hid hms0
        clear hb hbl hms0 hz hzl cm
        go_wp2_with fail
        refine (within_any z 9 _ (by omega) (by omega)).mono ?_
        rintro e _ ⟨rfl, rfl⟩
        have k0 : 0 ≤ z % 9 := Int.emod_nonneg _ (by omega)
        have k9 : z % 9 < 9 := Int.emod_lt_of_pos _ (by omega)
        have iwj : IntKind.i64.wrap ((j : Int) + 1) = (j : Int) + 1 := IntWalk.i64_in _ ⟨by omega, by omega⟩
        go_wp2_with fail
        go_roundw
        case rel => exact ⟨j + 1, ms.set j (z % 9), by omega, by simp, by simpa using hms, fun x hx => by
            rcases List.mem_or_eq_of_mem_set hx with h | rfl
            · exact H0.out x h
            · omega, HB.out.put j _, HBL.out.setCell (Nat.le_refl _) _⟩
        case measure => simp [intOf]; omega
      · have j1 : ¬ (j : Int) < (len2 : Int) := by omega
        have j3 : (j : Int) < 3 := by omega
        as_aux_lemma =>
          have hgb := hb.lt
          have HB := Lib.hid hb
          have HBL := Lib.hid hbl
          have H0 := Lib.hid hms0
          have sz := hbl.size
          clear hb hbl hms0 HZ
          go_wp2_with fail
          refine (new_any 2 _).mono ?_
          rintro e w1 ⟨gr, rfl, hgr, hr, hb1⟩
          have HR1 := Lib.hid hr
          have BM1 := Lib.hid (HB.out.below hb1)
          have HB1 := Lib.hid (HBL.out.trans (hb1.mono sz))
          have s1 : w.heap.size ≤ w1.heap.size := Nat.le_trans sz hb1.size
          clear hr hb1 HB HBL
          go_wp2_with fail
          refine (new_any 1 _).mono ?_
          rintro e w2 ⟨gq, rfl, hgq, hq, hb2⟩
          have HR2 := Lib.hid (HR1.out.below hb2)
          have HQ2 := Lib.hid hq
          have BM2 := Lib.hid (BM1.out.below hb2)
          have HB2 := Lib.hid (HB1.out.trans (hb2.mono s1))
          have s2 : w.heap.size ≤ w2.heap.size := Nat.le_trans s1 hb2.size
          have hgrl := HR1.out.lt
          have hlq : w1.heap.size ≤ w2.heap.size := hb2.size
          clear hq hb2 HR1 BM1 HB1
          go_wp2_with fail
          refine (new_any 3 _).mono ?_
          rintro e w3 ⟨ga, rfl, hga, ha, hb3⟩
          have HR3 := Lib.hid (HR2.out.below hb3)
          have HQ3 := Lib.hid (HQ2.out.below hb3)
          have HA3 := Lib.hid ha
          have BM3 := Lib.hid (BM2.out.below hb3)
          have HB3 := Lib.hid (HB2.out.trans (hb3.mono s2))
          have s3 : w.heap.size ≤ w3.heap.size := Nat.le_trans s2 hb3.size
          have hgql := HQ2.out.lt
          clear ha hb3 HR2 HQ2 BM2 HB2
          have cm : w3.cell? ⟨w.heap.size, gn, none⟩ = some (.int .i64 (ms.getD gn 0)) := by
            rw [BM3.out.cell gn, List.getElem?_toArray]
            simp [i64s, List.getD_eq_getElem?_getD, List.getElem?_eq_getElem (show gn < ms.length by omega)]
          have fm := BM3.out.free gn
          have g3 : (gn : Int) < 3 := by omega
          have g0 : (0 : Int) ≤ (gn : Int) := by omega
          have hrm : w.heap.size ≠ gr := by omega
          have hqm : w.heap.size ≠ gq := by omega
          have ham : w.heap.size ≠ ga := by omega
          have hrq : gr ≠ gq := by omega
          have hra : gr ≠ ga := by omega
          have hqa : gq ≠ ga := by omega
          have BM4 := Lib.hid (BM3.out.put gn (-1))
          have HR4 : Hid (Sch (w3.setCell ⟨w.heap.size, gn, none⟩ (.int .i64 (-1))) gr 2 0) := Lib.hid (Blk.far HR3.out (by simpa using hrm.symm) _)
          have HQ4 : Hid (Sch (w3.setCell ⟨w.heap.size, gn, none⟩ (.int .i64 (-1))) gq 1 0) := Lib.hid (Blk.far HQ3.out (by simpa using hqm.symm) _)
          have HA4 : Hid (Sch (w3.setCell ⟨w.heap.size, gn, none⟩ (.int .i64 (-1))) ga 3 0) := Lib.hid (Blk.far HA3.out (by simpa using ham.symm) _)
          have HB4 := Lib.hid (HB3.out.setCell (p := ⟨w.heap.size, gn, none⟩) (Nat.le_refl _) (.int .i64 (-1)))
          obtain ⟨M, hM⟩ : ∃ M, M = ms.set gn (-1) := ⟨_, rfl⟩
          have hMl : M.length = 3 := by rw [hM]; simpa using hms
          have hMg : M.getD gn 0 = -1 := by rw [hM]; simp [List.getD_eq_getElem?_getD, hms, hg3]
          have hMo : ∀ i, i < 3 → i ≠ gn → 0 ≤ M.getD i 0 := fun i hi hn => by
            rw [hM, List.getD_eq_getElem?_getD, List.getElem?_set_ne (fun e => hn e.symm), List.getElem?_eq_getElem (by omega)]
            exact (H0.out _ (List.getElem_mem _)).1
          rw [← hM] at BM4
          have RND := Lib.hid (gap_round M gn hMl hg3 hMg hMo)
          obtain ⟨y, u, hy, hy3, hu3, hyg, hyu, hle⟩ := gap_quick M gn hMl hg3 hMg hMo
          obtain ⟨z0, z1, hz, hz0, hz1, hzz⟩ := gap_all M gn hMl hg3 hMg hMo
          have HMO := Lib.hid hMo
          have HY := Lib.hid hy
          have HZA := Lib.hid hz
          clear hM hMo hy hz H0
          go_wp2_with fail
          generalize w3.setCell ⟨w.heap.size, gn, none⟩ (.int .i64 (-1)) = w4 at *
          clear BM3 HR3 HQ3 HA3 HB3 cm fm
          go_loopw [12, 13, 14, 15, 16, 17] (fun la i _ _ _ _ wr => ∃ (k : Nat) (l : Int), k ≤ R + 1 ∧ i = .int .i64 k ∧ la = .int .i64 l ∧ -1 ≤ l ∧ l ≤ 2 ∧ Blk wr w.heap.size (i64s M).toArray 3 ∧ Sch wr gr 2 (l + 1) ∧ Sch wr gq 1 0 ∧ Sch wr ga 3 0 ∧ Below w.heap.size w wr) (fun _ i _ _ _ _ _ => (R + 1) - (intOf i).toNat)
          case atStart => exact ⟨0, -1, by omega, rfl, rfl, by omega, by omega, BM4.out, HR4.out, HQ4.out, HA4.out, HB4.out⟩
          case round =>
            obtain ⟨k, l, hk, rfl, rfl, l0, l2, hbm, hr, hq, ha, hb⟩ := hrel
            clear BM4 HR4 HQ4 HA4 HB4
            have BM := Lib.hid hbm
            have HR := Lib.hid hr
            have HQ := Lib.hid hq
            have HA := Lib.hid ha
            have HB := Lib.hid hb
            have iwl : IntKind.i64.wrap (l + 1) = l + 1 := IntWalk.i64_in _ ⟨by omega, by omega⟩
            have tm : (l + 1).tmod 3 = (l + 1) % 3 := Int.tmod_eq_emod_of_nonneg (by omega)
            have e0 : 0 ≤ (l + 1) % 3 := Int.emod_nonneg _ (by omega)
            have e3 : (l + 1) % 3 < 3 := Int.emod_lt_of_pos _ (by omega)
            have iwm : IntKind.i64.wrap ((l + 1) % 3) = (l + 1) % 3 := IntWalk.i64_in _ ⟨by omega, by omega⟩
            clear hbm hr hq ha hb
            by_cases hkr : k < R + 1
            · have k1 : (k : Int) < 1 + (R : Int) := by omega
              by_cases hw : (l + 1) % 3 = (gn : Int)
              · have hwn : wnN gn l = ((gn : Int) + 1) % 3 := by unfold wnN; rw [if_pos hw, hw]
                have tm2 : ((gn : Int) + 1).tmod 3 = ((gn : Int) + 1) % 3 := Int.tmod_eq_emod_of_nonneg (by omega)
                obtain ⟨wn, hwe⟩ : ∃ wn, wn = ((gn : Int) + 1) % 3 := ⟨_, rfl⟩
                rw [← hwe] at tm2 hwn
                go_wp2_with fail
                try rw [← hwe]
                as_aux_lemma =>
                  have wn0 : 0 ≤ wn := by omega
                  have wn3 : wn < 3 := by omega
                  have rd := RND.out l l0 l2
                  rw [hwn] at rd
                  have lm := BM.out.lt
                  have lr := HR.out.lt
                  have lq := HQ.out.lt
                  have la_ := HA.out.lt
                  refine (pick_any _ 3 M gr 2 (l + 1) _ (Sl.of_blk BM.out 3 hMl (by simp [maxLen])) HR.out (by omega) (by intro j hj; injection hj with hj; simp only at hj; omega)).mono ?_
                  rintro e x1 ⟨vx, rfl, hox, hr, hf⟩
                  rw [rd.1] at hox
                  rw [rd.2] at hr
                  obtain ⟨gx, cx, rfl, hgx, _⟩ := hox.form (by simp)
                  simp only [List.length_singleton] at hox ⊢
                  have hxl := (hox.lt gx rfl).2
                  have SX1 := Lib.hid (Sl.of_own hox (i64s_one _))
                  have HR1 := Lib.hid hr
                  have HQ1 := Lib.hid (Blk.frm HQ.out hf (by omega))
                  have HA1 := Lib.hid (Blk.frm HA.out hf (by omega))
                  have BM1 := Lib.hid (BM.out.frm hf (by omega))
                  have HB1 := Lib.hid (Frm.below HB.out hf (by omega) (by rintro j rfl; omega))
                  have z1_ := hf.size
                  clear hox hr hf rd BM HR HQ HA HB
                  go_wp2_with fail
                  refine (pick_any _ 3 M gq 1 0 _ (Sl.of_blk BM1.out 3 hMl (by simp [maxLen])) HQ1.out (by omega) (by intro j hj; injection hj with hj; simp only at hj; omega)).mono ?_
                  rintro e x2 ⟨vy, rfl, hoy, hq, hf⟩
                  rw [HY.out] at hoy
                  rw [nx_none _ _ _ (by omega)] at hq
                  obtain ⟨gy, cy, rfl, hgy, _⟩ := hoy.form (by simp)
                  simp only [List.length_singleton] at hoy ⊢
                  have hyl := (hoy.lt gy rfl).2
                  have SX2 := Lib.hid (SX1.out.frm hf (by intro g hg e; injection hg with hg; simp only at hg; omega))
                  have SY2 := Lib.hid (Sl.of_own hoy (i64s_one _))
                  have HR2 := Lib.hid (Blk.frm HR1.out hf hrq)
                  have HQ2 := Lib.hid hq
                  have HA2 := Lib.hid (Blk.frm HA1.out hf hqa.symm)
                  have BM2 := Lib.hid (BM1.out.frm hf hqm)
                  have HB2 := Lib.hid (Frm.below HB1.out hf (by omega) (by rintro j rfl; omega))
                  have z2_ := hf.size
                  clear hoy hq hf SX1 HR1 HQ1 HA1 BM1 HB1
                  go_wp2_with fail
                  refine (pick_any _ 3 M ga 3 0 _ (Sl.of_blk BM2.out 3 hMl (by simp [maxLen])) HA2.out (by omega) (by intro j hj; injection hj with hj; simp only at hj; omega)).mono ?_
                  rintro e x3 ⟨vz, rfl, hoz, ha, hf⟩
                  rw [HZA.out] at hoz
                  rw [nx_none _ _ _ (by omega)] at ha
                  obtain ⟨gz, cz, rfl, hgz, _⟩ := hoz.form (by simp)
                  simp only [List.length_cons, List.length_nil] at hoz ⊢
                  have SX3 := Lib.hid (SX2.out.frm hf (by intro g hg e; injection hg with hg; simp only at hg; omega))
                  have SY3 := Lib.hid (SY2.out.frm hf (by intro g hg e; injection hg with hg; simp only at hg; omega))
                  have SZ3 := Lib.hid (Sl.of_own hoz (i64s_one _))
                  have HR3 := Lib.hid (Blk.frm HR2.out hf hra)
                  have HQ3 := Lib.hid (Blk.frm HQ2.out hf hqa)
                  have HA3 := Lib.hid ha
                  have BM3 := Lib.hid (BM2.out.frm hf ham)
                  have HB3 := Lib.hid (Frm.below HB2.out hf (by omega) (by rintro j rfl; omega))
                  have z3_ := hf.size
                  clear hoz ha hf SX2 SY2 HR2 HQ2 HA2 BM2 HB2
                  have c_x : x3.cell? ⟨gx, 0, none⟩ = some (.int .i64 wn) := sl_cell SX3.out (by omega)
                  have c_y : x3.cell? ⟨gy, 0, none⟩ = some (.int .i64 (y : Int)) := sl_cell SY3.out (by omega)
                  have c_z0 : x3.cell? ⟨gz, 0, none⟩ = some (.int .i64 (z0 : Int)) := sl_cell SZ3.out (by omega)
                  have c_z1 : x3.cell? ⟨gz, 1, none⟩ = some (.int .i64 (z1 : Int)) := sl_cell SZ3.out (by omega)
                  have c_my : x3.cell? ⟨w.heap.size, y, none⟩ = some (.int .i64 (M.getD y 0)) := sl_cell (Sl.of_blk BM3.out 3 hMl (by simp [maxLen])) hy3
                  have c_mu : x3.cell? ⟨w.heap.size, u, none⟩ = some (.int .i64 (M.getD u 0)) := sl_cell (Sl.of_blk BM3.out 3 hMl (by simp [maxLen])) hu3
                  generalize M.getD y 0 = my at c_my hle
                  generalize M.getD u 0 = mu at c_mu hle
                  generalize (z0 : Int) = zi0 at c_z0 hz0 hzz
                  generalize (z1 : Int) = zi1 at c_z1 hz1 hzz
                  have t1 : decide ((y : Int) = (gn : Int)) = false := by simpa using hyg
                  have t1b : ((y : Int) == (gn : Int)) = false := by simpa using hyg
                  have t2 : decide (zi0 = (gn : Int)) = false := by simpa using hz0
                  have t2b : (zi0 == (gn : Int)) = false := by simpa using hz0
                  have t3 : decide (zi1 = (gn : Int)) = false := by simpa using hz1
                  have t3b : (zi1 == (gn : Int)) = false := by simpa using hz1
                  have t4 : decide (zi1 ≤ zi0) = false := by simp; omega
                  have t5 : decide (mu < my) = false := by simp; omega
                  have t6 : decide ((y : Int) < 0) = false := by simp
                  have t7 : decide ((2 : Int) < (y : Int)) = false := by simp; omega
                  have y0 : (0 : Int) ≤ (y : Int) := by omega
                  have y3 : (y : Int) < 3 := by omega
                  have u0 : (0 : Int) ≤ (u : Int) := by omega
                  have u3 : (u : Int) < 3 := by omega
                  have iwa : IntKind.i64.wrap (3 - (gn : Int)) = 3 - (gn : Int) := IntWalk.i64_in _ ⟨by omega, by omega⟩
                  have iwb : IntKind.i64.wrap (3 - (gn : Int) - (y : Int)) = (u : Int) := by rw [hyu]; exact IntWalk.i64_in _ ⟨by omega, by omega⟩
                  have iwu : IntKind.i64.wrap (u : Int) = (u : Int) := IntWalk.i64_in _ ⟨by omega, by omega⟩
                  have iwk : IntKind.i64.wrap ((k : Int) + 1) = (k : Int) + 1 := IntWalk.i64_in _ ⟨by omega, by omega⟩
                  clear SX3 SY3 SZ3
                  go_wp2_with fail
                  go_quiet (fail)
                  go_wp2_with fail
                  go_roundw
                  case rel => exact ⟨k + 1, wn, by omega, by go_num, by (first | rfl | rw [hwe]), by omega, by omega, BM3.out.drewN _, HR3.out.drewN _, HQ3.out.drewN _, HA3.out.drewN _, Below.drewN' HB3.out _⟩
                  case measure => simp [intOf]; omega
              · have hwn : wnN gn l = (l + 1) % 3 := by unfold wnN; rw [if_neg hw]
                obtain ⟨wn, hwe⟩ : ∃ wn, wn = (l + 1) % 3 := ⟨_, rfl⟩
                rw [← hwe] at tm hwn hw iwm e0 e3
                go_wp2_with fail
                try rw [← hwe]
                as_aux_lemma =>
                  have wn0 : 0 ≤ wn := by omega
                  have wn3 : wn < 3 := by omega
                  have rd := RND.out l l0 l2
                  rw [hwn] at rd
                  have lm := BM.out.lt
                  have lr := HR.out.lt
                  have lq := HQ.out.lt
                  have la_ := HA.out.lt
                  refine (pick_any _ 3 M gr 2 (l + 1) _ (Sl.of_blk BM.out 3 hMl (by simp [maxLen])) HR.out (by omega) (by intro j hj; injection hj with hj; simp only at hj; omega)).mono ?_
                  rintro e x1 ⟨vx, rfl, hox, hr, hf⟩
                  rw [rd.1] at hox
                  rw [rd.2] at hr
                  obtain ⟨gx, cx, rfl, hgx, _⟩ := hox.form (by simp)
                  simp only [List.length_singleton] at hox ⊢
                  have hxl := (hox.lt gx rfl).2
                  have SX1 := Lib.hid (Sl.of_own hox (i64s_one _))
                  have HR1 := Lib.hid hr
                  have HQ1 := Lib.hid (Blk.frm HQ.out hf (by omega))
                  have HA1 := Lib.hid (Blk.frm HA.out hf (by omega))
                  have BM1 := Lib.hid (BM.out.frm hf (by omega))
                  have HB1 := Lib.hid (Frm.below HB.out hf (by omega) (by rintro j rfl; omega))
                  have z1_ := hf.size
                  clear hox hr hf rd BM HR HQ HA HB
                  go_wp2_with fail
                  refine (pick_any _ 3 M gq 1 0 _ (Sl.of_blk BM1.out 3 hMl (by simp [maxLen])) HQ1.out (by omega) (by intro j hj; injection hj with hj; simp only at hj; omega)).mono ?_
                  rintro e x2 ⟨vy, rfl, hoy, hq, hf⟩
                  rw [HY.out] at hoy
                  rw [nx_none _ _ _ (by omega)] at hq
                  obtain ⟨gy, cy, rfl, hgy, _⟩ := hoy.form (by simp)
                  simp only [List.length_singleton] at hoy ⊢
                  have hyl := (hoy.lt gy rfl).2
                  have SX2 := Lib.hid (SX1.out.frm hf (by intro g hg e; injection hg with hg; simp only at hg; omega))
                  have SY2 := Lib.hid (Sl.of_own hoy (i64s_one _))
                  have HR2 := Lib.hid (Blk.frm HR1.out hf hrq)
                  have HQ2 := Lib.hid hq
                  have HA2 := Lib.hid (Blk.frm HA1.out hf hqa.symm)
                  have BM2 := Lib.hid (BM1.out.frm hf hqm)
                  have HB2 := Lib.hid (Frm.below HB1.out hf (by omega) (by rintro j rfl; omega))
                  have z2_ := hf.size
                  clear hoy hq hf SX1 HR1 HQ1 HA1 BM1 HB1
                  go_wp2_with fail
                  refine (pick_any _ 3 M ga 3 0 _ (Sl.of_blk BM2.out 3 hMl (by simp [maxLen])) HA2.out (by omega) (by intro j hj; injection hj with hj; simp only at hj; omega)).mono ?_
                  rintro e x3 ⟨vz, rfl, hoz, ha, hf⟩
                  rw [HZA.out] at hoz
                  rw [nx_none _ _ _ (by omega)] at ha
                  obtain ⟨gz, cz, rfl, hgz, _⟩ := hoz.form (by simp)
                  simp only [List.length_cons, List.length_nil] at hoz ⊢
                  have SX3 := Lib.hid (SX2.out.frm hf (by intro g hg e; injection hg with hg; simp only at hg; omega))
                  have SY3 := Lib.hid (SY2.out.frm hf (by intro g hg e; injection hg with hg; simp only at hg; omega))
                  have SZ3 := Lib.hid (Sl.of_own hoz (i64s_one _))
                  have HR3 := Lib.hid (Blk.frm HR2.out hf hra)
                  have HQ3 := Lib.hid (Blk.frm HQ2.out hf hqa)
                  have HA3 := Lib.hid ha
                  have BM3 := Lib.hid (BM2.out.frm hf ham)
                  have HB3 := Lib.hid (Frm.below HB2.out hf (by omega) (by rintro j rfl; omega))
                  have z3_ := hf.size
                  clear hoz ha hf SX2 SY2 HR2 HQ2 HA2 BM2 HB2
                  have c_x : x3.cell? ⟨gx, 0, none⟩ = some (.int .i64 wn) := sl_cell SX3.out (by omega)
                  have c_y : x3.cell? ⟨gy, 0, none⟩ = some (.int .i64 (y : Int)) := sl_cell SY3.out (by omega)
                  have c_z0 : x3.cell? ⟨gz, 0, none⟩ = some (.int .i64 (z0 : Int)) := sl_cell SZ3.out (by omega)
                  have c_z1 : x3.cell? ⟨gz, 1, none⟩ = some (.int .i64 (z1 : Int)) := sl_cell SZ3.out (by omega)
                  have c_my : x3.cell? ⟨w.heap.size, y, none⟩ = some (.int .i64 (M.getD y 0)) := sl_cell (Sl.of_blk BM3.out 3 hMl (by simp [maxLen])) hy3
                  have c_mu : x3.cell? ⟨w.heap.size, u, none⟩ = some (.int .i64 (M.getD u 0)) := sl_cell (Sl.of_blk BM3.out 3 hMl (by simp [maxLen])) hu3
                  generalize M.getD y 0 = my at c_my hle
                  generalize M.getD u 0 = mu at c_mu hle
                  generalize (z0 : Int) = zi0 at c_z0 hz0 hzz
                  generalize (z1 : Int) = zi1 at c_z1 hz1 hzz
                  have t1 : decide ((y : Int) = (gn : Int)) = false := by simpa using hyg
                  have t1b : ((y : Int) == (gn : Int)) = false := by simpa using hyg
                  have t2 : decide (zi0 = (gn : Int)) = false := by simpa using hz0
                  have t2b : (zi0 == (gn : Int)) = false := by simpa using hz0
                  have t3 : decide (zi1 = (gn : Int)) = false := by simpa using hz1
                  have t3b : (zi1 == (gn : Int)) = false := by simpa using hz1
                  have t4 : decide (zi1 ≤ zi0) = false := by simp; omega
                  have t5 : decide (mu < my) = false := by simp; omega
                  have t6 : decide ((y : Int) < 0) = false := by simp
                  have t7 : decide ((2 : Int) < (y : Int)) = false := by simp; omega
                  have y0 : (0 : Int) ≤ (y : Int) := by omega
                  have y3 : (y : Int) < 3 := by omega
                  have u0 : (0 : Int) ≤ (u : Int) := by omega
                  have u3 : (u : Int) < 3 := by omega
                  have iwa : IntKind.i64.wrap (3 - (gn : Int)) = 3 - (gn : Int) := IntWalk.i64_in _ ⟨by omega, by omega⟩
                  have iwb : IntKind.i64.wrap (3 - (gn : Int) - (y : Int)) = (u : Int) := by rw [hyu]; exact IntWalk.i64_in _ ⟨by omega, by omega⟩
                  have iwu : IntKind.i64.wrap (u : Int) = (u : Int) := IntWalk.i64_in _ ⟨by omega, by omega⟩
                  have iwk : IntKind.i64.wrap ((k : Int) + 1) = (k : Int) + 1 := IntWalk.i64_in _ ⟨by omega, by omega⟩
                  clear SX3 SY3 SZ3
                  go_wp2_with fail
                  go_quiet (fail)
                  go_wp2_with fail
                  go_roundw
                  case rel => exact ⟨k + 1, wn, by omega, by go_num, by (first | rfl | rw [hwe]), by omega, by omega, BM3.out.drewN _, HR3.out.drewN _, HQ3.out.drewN _, HA3.out.drewN _, Below.drewN' HB3.out _⟩
                  case measure => simp [intOf]; omega
            · have k1 : ¬ (k : Int) < 1 + (R : Int) := by omega
              as_aux_lemma =>
                have cm : wr.cell? ⟨w.heap.size, gn, none⟩ = some (.int .i64 (-1)) := by
                  rw [BM.out.cell gn, List.getElem?_toArray, ← hMg]
                  simp [i64s, List.getD_eq_getElem?_getD, List.getElem?_eq_getElem (show gn < M.length by omega)]
                have fm := BM.out.free gn
                have BM1 := Lib.hid (BM.out.put gn 0)
                have HR1 : Hid (Sch (wr.setCell ⟨w.heap.size, gn, none⟩ (.int .i64 0)) gr 2 (l + 1)) := Lib.hid (Blk.far HR.out (by simpa using hrm.symm) _)
                have HQ1 : Hid (Sch (wr.setCell ⟨w.heap.size, gn, none⟩ (.int .i64 0)) gq 1 0) := Lib.hid (Blk.far HQ.out (by simpa using hqm.symm) _)
                have HA1 : Hid (Sch (wr.setCell ⟨w.heap.size, gn, none⟩ (.int .i64 0)) ga 3 0) := Lib.hid (Blk.far HA.out (by simpa using ham.symm) _)
                have HB1 := Lib.hid (HB.out.setCell (p := ⟨w.heap.size, gn, none⟩) (Nat.le_refl _) (.int .i64 0))
                obtain ⟨M2, hM⟩ : ∃ M2, M2 = M.set gn 0 := ⟨_, rfl⟩
                have hM2 : M2.length = 3 := by rw [hM]; simpa using hMl
                have hMz : M2.getD gn 0 = 0 := by rw [hM]; simp [List.getD_eq_getElem?_getD, hMl, hg3]
                have hMp : ∀ i, i < 3 → 0 ≤ M2.getD i 0 := fun i hi => by
                  by_cases hn : i = gn
                  · rw [hn, hMz]; exact Int.le_refl 0
                  · have := HMO.out i hi hn
                    rw [List.getD_eq_getElem?_getD] at this
                    rw [hM, List.getD_eq_getElem?_getD, List.getElem?_set_ne (fun e => hn e.symm)]
                    exact this
                rw [← hM] at BM1
                obtain ⟨b1, ⟨yy, b2, yy3, b3⟩, b4⟩ := back M2 gn hM2 hg3 hMz hMp l l0 l2
                have b2h := Lib.hid b2
                have b1h := Lib.hid b1
                have b4h := Lib.hid b4
                clear hM hMp b1 b2 b4 BM HR HQ HA HB
                go_wp2_with fail
                generalize wr.setCell ⟨w.heap.size, gn, none⟩ (.int .i64 0) = v0 at *
                have lm := BM1.out.lt
                have lr := HR1.out.lt
                have lq := HQ1.out.lt
                have la_ := HA1.out.lt
                refine (pick_any _ 3 M2 gr 2 (l + 1) _ (Sl.of_blk BM1.out 3 hM2 (by simp [maxLen])) HR1.out (by omega) (by intro j hj; injection hj with hj; simp only at hj; omega)).mono ?_
                rintro e x1 ⟨vx, rfl, hox, hr, hf⟩
                rw [b1h.out] at hox
                obtain ⟨gx, cx, rfl, hgx, _⟩ := hox.form (by simp)
                simp only [List.length_singleton] at hox ⊢
                have hxl := (hox.lt gx rfl).2
                have SX1 := Lib.hid (Sl.of_own hox (i64s_one _))
                have HQ2 := Lib.hid (Blk.frm HQ1.out hf (by omega))
                have HA2 := Lib.hid (Blk.frm HA1.out hf (by omega))
                have BM2 := Lib.hid (BM1.out.frm hf (by omega))
                have HB2 := Lib.hid (Frm.below HB1.out hf (by omega) (by rintro j rfl; omega))
                have z1_ := hf.size
                clear hox hr hf b1h BM1 HR1 HQ1 HA1 HB1
                go_wp2_with fail
                refine (pick_any _ 3 M2 gq 1 0 _ (Sl.of_blk BM2.out 3 hM2 (by simp [maxLen])) HQ2.out (by omega) (by intro j hj; injection hj with hj; simp only at hj; omega)).mono ?_
                rintro e x2 ⟨vy, rfl, hoy, hq, hf⟩
                rw [b2h.out] at hoy
                obtain ⟨gy, cy, rfl, hgy, _⟩ := hoy.form (by simp)
                simp only [List.length_singleton] at hoy ⊢
                have hyl := (hoy.lt gy rfl).2
                have SX3 := Lib.hid (SX1.out.frm hf (by intro g hg e; injection hg with hg; simp only at hg; omega))
                have SY3 := Lib.hid (Sl.of_own hoy (i64s_one _))
                have HA3 := Lib.hid (Blk.frm HA2.out hf hqa.symm)
                have BM3 := Lib.hid (BM2.out.frm hf hqm)
                have HB3 := Lib.hid (Frm.below HB2.out hf (by omega) (by rintro j rfl; omega))
                have z2_ := hf.size
                clear hoy hq hf SX1 HQ2 HA2 BM2 HB2
                have c_x : x2.cell? ⟨gx, 0, none⟩ = some (.int .i64 ((l + 1) % 3)) := sl_cell SX3.out (by omega)
                have c_y : x2.cell? ⟨gy, 0, none⟩ = some (.int .i64 (yy : Int)) := sl_cell SY3.out (by omega)
                have c_my : x2.cell? ⟨w.heap.size, yy, none⟩ = some (.int .i64 0) := by rw [← b3]; exact sl_cell (Sl.of_blk BM3.out 3 hM2 (by simp [maxLen])) yy3
                have y0 : (0 : Int) ≤ (yy : Int) := by omega
                have y3 : (yy : Int) < 3 := by omega
                clear SX3 SY3
                go_wp2_with fail
                refine (pick_any _ 3 M2 ga 3 0 _ (Sl.of_blk BM3.out 3 hM2 (by simp [maxLen])) HA3.out (by omega) (by intro j hj; injection hj with hj; simp only at hj; omega)).mono ?_
                rintro e x3 ⟨vz, rfl, hoz, ha, hf⟩
                rw [b4h.out] at hoz
                obtain ⟨A4, c4, rfl⟩ := own_slice' hoz
                have HB4 := Lib.hid (Frm.below HB3.out hf (by omega) (by rintro j rfl; omega))
                have z3_ := hf.size
                simp only [List.length_cons, List.length_nil]
                clear hoz ha hf HB3 HA3 BM3 b4h b2h
                go_wp2_with fail
                refine (wakes_any _).mono ?_
                rintro e x4 ⟨rfl, hbk⟩
                have HB5 := Lib.hid (HB4.out.trans (hbk.mono (by omega)))
                clear hbk
                go_wp2_with fail
                go_ret
                exact ⟨rfl, HB5.out⟩
    · have j3 : ¬ (j : Int) < 3 := by omega
      as_aux_lemma =>
        have hgb := hb.lt
        have HB := Lib.hid hb
        have HBL := Lib.hid hbl
        have H0 := Lib.hid hms0
        have sz := hbl.size
        clear hb hbl hms0 HZ
        go_wp2_with fail
        refine (new_any 2 _).mono ?_
        rintro e w1 ⟨gr, rfl, hgr, hr, hb1⟩
        have HR1 := Lib.hid hr
        have BM1 := Lib.hid (HB.out.below hb1)
        have HB1 := Lib.hid (HBL.out.trans (hb1.mono sz))
        have s1 : w.heap.size ≤ w1.heap.size := Nat.le_trans sz hb1.size
        clear hr hb1 HB HBL
        go_wp2_with fail
        refine (new_any 1 _).mono ?_
        rintro e w2 ⟨gq, rfl, hgq, hq, hb2⟩
        have HR2 := Lib.hid (HR1.out.below hb2)
        have HQ2 := Lib.hid hq
        have BM2 := Lib.hid (BM1.out.below hb2)
        have HB2 := Lib.hid (HB1.out.trans (hb2.mono s1))
        have s2 : w.heap.size ≤ w2.heap.size := Nat.le_trans s1 hb2.size
        have hgrl := HR1.out.lt
        have hlq : w1.heap.size ≤ w2.heap.size := hb2.size
        clear hq hb2 HR1 BM1 HB1
        go_wp2_with fail
        refine (new_any 3 _).mono ?_
        rintro e w3 ⟨ga, rfl, hga, ha, hb3⟩
        have HR3 := Lib.hid (HR2.out.below hb3)
        have HQ3 := Lib.hid (HQ2.out.below hb3)
        have HA3 := Lib.hid ha
        have BM3 := Lib.hid (BM2.out.below hb3)
        have HB3 := Lib.hid (HB2.out.trans (hb3.mono s2))
        have s3 : w.heap.size ≤ w3.heap.size := Nat.le_trans s2 hb3.size
        have hgql := HQ2.out.lt
        clear ha hb3 HR2 HQ2 BM2 HB2
        have cm : w3.cell? ⟨w.heap.size, gn, none⟩ = some (.int .i64 (ms.getD gn 0)) := by
          rw [BM3.out.cell gn, List.getElem?_toArray]
          simp [i64s, List.getD_eq_getElem?_getD, List.getElem?_eq_getElem (show gn < ms.length by omega)]
        have fm := BM3.out.free gn
        have g3 : (gn : Int) < 3 := by omega
        have g0 : (0 : Int) ≤ (gn : Int) := by omega
        have hrm : w.heap.size ≠ gr := by omega
        have hqm : w.heap.size ≠ gq := by omega
        have ham : w.heap.size ≠ ga := by omega
        have hrq : gr ≠ gq := by omega
        have hra : gr ≠ ga := by omega
        have hqa : gq ≠ ga := by omega
        have BM4 := Lib.hid (BM3.out.put gn (-1))
        have HR4 : Hid (Sch (w3.setCell ⟨w.heap.size, gn, none⟩ (.int .i64 (-1))) gr 2 0) := Lib.hid (Blk.far HR3.out (by simpa using hrm.symm) _)
        have HQ4 : Hid (Sch (w3.setCell ⟨w.heap.size, gn, none⟩ (.int .i64 (-1))) gq 1 0) := Lib.hid (Blk.far HQ3.out (by simpa using hqm.symm) _)
        have HA4 : Hid (Sch (w3.setCell ⟨w.heap.size, gn, none⟩ (.int .i64 (-1))) ga 3 0) := Lib.hid (Blk.far HA3.out (by simpa using ham.symm) _)
        have HB4 := Lib.hid (HB3.out.setCell (p := ⟨w.heap.size, gn, none⟩) (Nat.le_refl _) (.int .i64 (-1)))
        obtain ⟨M, hM⟩ : ∃ M, M = ms.set gn (-1) := ⟨_, rfl⟩
        have hMl : M.length = 3 := by rw [hM]; simpa using hms
        have hMg : M.getD gn 0 = -1 := by rw [hM]; simp [List.getD_eq_getElem?_getD, hms, hg3]
        have hMo : ∀ i, i < 3 → i ≠ gn → 0 ≤ M.getD i 0 := fun i hi hn => by
          rw [hM, List.getD_eq_getElem?_getD, List.getElem?_set_ne (fun e => hn e.symm), List.getElem?_eq_getElem (by omega)]
          exact (H0.out _ (List.getElem_mem _)).1
        rw [← hM] at BM4
        have RND := Lib.hid (gap_round M gn hMl hg3 hMg hMo)
        obtain ⟨y, u, hy, hy3, hu3, hyg, hyu, hle⟩ := gap_quick M gn hMl hg3 hMg hMo
        obtain ⟨z0, z1, hz, hz0, hz1, hzz⟩ := gap_all M gn hMl hg3 hMg hMo
        have HMO := Lib.hid hMo
        have HY := Lib.hid hy
        have HZA := Lib.hid hz
        clear hM hMo hy hz H0
        go_wp2_with fail
        generalize w3.setCell ⟨w.heap.size, gn, none⟩ (.int .i64 (-1)) = w4 at *
        clear BM3 HR3 HQ3 HA3 HB3 cm fm
        go_loopw [12, 13, 14, 15, 16, 17] (fun la i _ _ _ _ wr => ∃ (k : Nat) (l : Int), k ≤ R + 1 ∧ i = .int .i64 k ∧ la = .int .i64 l ∧ -1 ≤ l ∧ l ≤ 2 ∧ Blk wr w.heap.size (i64s M).toArray 3 ∧ Sch wr gr 2 (l + 1) ∧ Sch wr gq 1 0 ∧ Sch wr ga 3 0 ∧ Below w.heap.size w wr) (fun _ i _ _ _ _ _ => (R + 1) - (intOf i).toNat)
        case atStart => exact ⟨0, -1, by omega, rfl, rfl, by omega, by omega, BM4.out, HR4.out, HQ4.out, HA4.out, HB4.out⟩
        case round =>
          obtain ⟨k, l, hk, rfl, rfl, l0, l2, hbm, hr, hq, ha, hb⟩ := hrel
          clear BM4 HR4 HQ4 HA4 HB4
          have BM := Lib.hid hbm
          have HR := Lib.hid hr
          have HQ := Lib.hid hq
          have HA := Lib.hid ha
          have HB := Lib.hid hb
          have iwl : IntKind.i64.wrap (l + 1) = l + 1 := IntWalk.i64_in _ ⟨by omega, by omega⟩
          have tm : (l + 1).tmod 3 = (l + 1) % 3 := Int.tmod_eq_emod_of_nonneg (by omega)
          have e0 : 0 ≤ (l + 1) % 3 := Int.emod_nonneg _ (by omega)
          have e3 : (l + 1) % 3 < 3 := Int.emod_lt_of_pos _ (by omega)
          have iwm : IntKind.i64.wrap ((l + 1) % 3) = (l + 1) % 3 := IntWalk.i64_in _ ⟨by omega, by omega⟩
          clear hbm hr hq ha hb
          by_cases hkr : k < R + 1
          · have k1 : (k : Int) < 1 + (R : Int) := by omega
            by_cases hw : (l + 1) % 3 = (gn : Int)
            · have hwn : wnN gn l = ((gn : Int) + 1) % 3 := by unfold wnN; rw [if_pos hw, hw]
              have tm2 : ((gn : Int) + 1).tmod 3 = ((gn : Int) + 1) % 3 := Int.tmod_eq_emod_of_nonneg (by omega)
              obtain ⟨wn, hwe⟩ : ∃ wn, wn = ((gn : Int) + 1) % 3 := ⟨_, rfl⟩
              rw [← hwe] at tm2 hwn
              go_wp2_with fail
              try rw [← hwe]
              as_aux_lemma =>
                have wn0 : 0 ≤ wn := by omega
                have wn3 : wn < 3 := by omega
                have rd := RND.out l l0 l2
                rw [hwn] at rd
                have lm := BM.out.lt
                have lr := HR.out.lt
                have lq := HQ.out.lt
                have la_ := HA.out.lt
                refine (pick_any _ 3 M gr 2 (l + 1) _ (Sl.of_blk BM.out 3 hMl (by simp [maxLen])) HR.out (by omega) (by intro j hj; injection hj with hj; simp only at hj; omega)).mono ?_
                rintro e x1 ⟨vx, rfl, hox, hr, hf⟩
                rw [rd.1] at hox
                rw [rd.2] at hr
                obtain ⟨gx, cx, rfl, hgx, _⟩ := hox.form (by simp)
                simp only [List.length_singleton] at hox ⊢
                have hxl := (hox.lt gx rfl).2
                have SX1 := Lib.hid (Sl.of_own hox (i64s_one _))
                have HR1 := Lib.hid hr
                have HQ1 := Lib.hid (Blk.frm HQ.out hf (by omega))
                have HA1 := Lib.hid (Blk.frm HA.out hf (by omega))
                have BM1 := Lib.hid (BM.out.frm hf (by omega))
                have HB1 := Lib.hid (Frm.below HB.out hf (by omega) (by rintro j rfl; omega))
                have z1_ := hf.size
                clear hox hr hf rd BM HR HQ HA HB
                go_wp2_with fail
                refine (pick_any _ 3 M gq 1 0 _ (Sl.of_blk BM1.out 3 hMl (by simp [maxLen])) HQ1.out (by omega) (by intro j hj; injection hj with hj; simp only at hj; omega)).mono ?_
                rintro e x2 ⟨vy, rfl, hoy, hq, hf⟩
                rw [HY.out] at hoy
                rw [nx_none _ _ _ (by omega)] at hq
                obtain ⟨gy, cy, rfl, hgy, _⟩ := hoy.form (by simp)
                simp only [List.length_singleton] at hoy ⊢
                have hyl := (hoy.lt gy rfl).2
                have SX2 := Lib.hid (SX1.out.frm hf (by intro g hg e; injection hg with hg; simp only at hg; omega))
                have SY2 := Lib.hid (Sl.of_own hoy (i64s_one _))
                have HR2 := Lib.hid (Blk.frm HR1.out hf hrq)
                have HQ2 := Lib.hid hq
                have HA2 := Lib.hid (Blk.frm HA1.out hf hqa.symm)
                have BM2 := Lib.hid (BM1.out.frm hf hqm)
                have HB2 := Lib.hid (Frm.below HB1.out hf (by omega) (by rintro j rfl; omega))
                have z2_ := hf.size
                clear hoy hq hf SX1 HR1 HQ1 HA1 BM1 HB1
                go_wp2_with fail
                refine (pick_any _ 3 M ga 3 0 _ (Sl.of_blk BM2.out 3 hMl (by simp [maxLen])) HA2.out (by omega) (by intro j hj; injection hj with hj; simp only at hj; omega)).mono ?_
                rintro e x3 ⟨vz, rfl, hoz, ha, hf⟩
                rw [HZA.out] at hoz
                rw [nx_none _ _ _ (by omega)] at ha
                obtain ⟨gz, cz, rfl, hgz, _⟩ := hoz.form (by simp)
                simp only [List.length_cons, List.length_nil] at hoz ⊢
                have SX3 := Lib.hid (SX2.out.frm hf (by intro g hg e; injection hg with hg; simp only at hg; omega))
                have SY3 := Lib.hid (SY2.out.frm hf (by intro g hg e; injection hg with hg; simp only at hg; omega))
                have SZ3 := Lib.hid (Sl.of_own hoz (i64s_one _))
                have HR3 := Lib.hid (Blk.frm HR2.out hf hra)
                have HQ3 := Lib.hid (Blk.frm HQ2.out hf hqa)
                have HA3 := Lib.hid ha
                have BM3 := Lib.hid (BM2.out.frm hf ham)
                have HB3 := Lib.hid (Frm.below HB2.out hf (by omega) (by rintro j rfl; omega))
                have z3_ := hf.size
                clear hoz ha hf SX2 SY2 HR2 HQ2 HA2 BM2 HB2
                have c_x : x3.cell? ⟨gx, 0, none⟩ = some (.int .i64 wn) := sl_cell SX3.out (by omega)
                have c_y : x3.cell? ⟨gy, 0, none⟩ = some (.int .i64 (y : Int)) := sl_cell SY3.out (by omega)
                have c_z0 : x3.cell? ⟨gz, 0, none⟩ = some (.int .i64 (z0 : Int)) := sl_cell SZ3.out (by omega)
                have c_z1 : x3.cell? ⟨gz, 1, none⟩ = some (.int .i64 (z1 : Int)) := sl_cell SZ3.out (by omega)
                have c_my : x3.cell? ⟨w.heap.size, y, none⟩ = some (.int .i64 (M.getD y 0)) := sl_cell (Sl.of_blk BM3.out 3 hMl (by simp [maxLen])) hy3
                have c_mu : x3.cell? ⟨w.heap.size, u, none⟩ = some (.int .i64 (M.getD u 0)) := sl_cell (Sl.of_blk BM3.out 3 hMl (by simp [maxLen])) hu3
                generalize M.getD y 0 = my at c_my hle
                generalize M.getD u 0 = mu at c_mu hle
                generalize (z0 : Int) = zi0 at c_z0 hz0 hzz
                generalize (z1 : Int) = zi1 at c_z1 hz1 hzz
                have t1 : decide ((y : Int) = (gn : Int)) = false := by simpa using hyg
                have t1b : ((y : Int) == (gn : Int)) = false := by simpa using hyg
                have t2 : decide (zi0 = (gn : Int)) = false := by simpa using hz0
                have t2b : (zi0 == (gn : Int)) = false := by simpa using hz0
                have t3 : decide (zi1 = (gn : Int)) = false := by simpa using hz1
                have t3b : (zi1 == (gn : Int)) = false := by simpa using hz1
                have t4 : decide (zi1 ≤ zi0) = false := by simp; omega
                have t5 : decide (mu < my) = false := by simp; omega
                have t6 : decide ((y : Int) < 0) = false := by simp
                have t7 : decide ((2 : Int) < (y : Int)) = false := by simp; omega
                have y0 : (0 : Int) ≤ (y : Int) := by omega
                have y3 : (y : Int) < 3 := by omega
                have u0 : (0 : Int) ≤ (u : Int) := by omega
                have u3 : (u : Int) < 3 := by omega
                have iwa : IntKind.i64.wrap (3 - (gn : Int)) = 3 - (gn : Int) := IntWalk.i64_in _ ⟨by omega, by omega⟩
                have iwb : IntKind.i64.wrap (3 - (gn : Int) - (y : Int)) = (u : Int) := by rw [hyu]; exact IntWalk.i64_in _ ⟨by omega, by omega⟩
                have iwu : IntKind.i64.wrap (u : Int) = (u : Int) := IntWalk.i64_in _ ⟨by omega, by omega⟩
                have iwk : IntKind.i64.wrap ((k : Int) + 1) = (k : Int) + 1 := IntWalk.i64_in _ ⟨by omega, by omega⟩
                clear SX3 SY3 SZ3
                go_wp2_with fail
                go_quiet (fail)
                go_wp2_with fail
                go_roundw
                case rel => exact ⟨k + 1, wn, by omega, by go_num, by (first | rfl | rw [hwe]), by omega, by omega, BM3.out.drewN _, HR3.out.drewN _, HQ3.out.drewN _, HA3.out.drewN _, Below.drewN' HB3.out _⟩
                case measure => simp [intOf]; omega
            · have hwn : wnN gn l = (l + 1) % 3 := by unfold wnN; rw [if_neg hw]
              obtain ⟨wn, hwe⟩ : ∃ wn, wn = (l + 1) % 3 := ⟨_, rfl⟩
              rw [← hwe] at tm hwn hw iwm e0 e3
              go_wp2_with fail
              try rw [← hwe]
              as_aux_lemma =>
                have wn0 : 0 ≤ wn := by omega
                have wn3 : wn < 3 := by omega
                have rd := RND.out l l0 l2
                rw [hwn] at rd
                have lm := BM.out.lt
                have lr := HR.out.lt
                have lq := HQ.out.lt
                have la_ := HA.out.lt
                refine (pick_any _ 3 M gr 2 (l + 1) _ (Sl.of_blk BM.out 3 hMl (by simp [maxLen])) HR.out (by omega) (by intro j hj; injection hj with hj; simp only at hj; omega)).mono ?_
                rintro e x1 ⟨vx, rfl, hox, hr, hf⟩
                rw [rd.1] at hox
                rw [rd.2] at hr
                obtain ⟨gx, cx, rfl, hgx, _⟩ := hox.form (by simp)
                simp only [List.length_singleton] at hox ⊢
                have hxl := (hox.lt gx rfl).2
                have SX1 := Lib.hid (Sl.of_own hox (i64s_one _))
                have HR1 := Lib.hid hr
                have HQ1 := Lib.hid (Blk.frm HQ.out hf (by omega))
                have HA1 := Lib.hid (Blk.frm HA.out hf (by omega))
                have BM1 := Lib.hid (BM.out.frm hf (by omega))
                have HB1 := Lib.hid (Frm.below HB.out hf (by omega) (by rintro j rfl; omega))
                have z1_ := hf.size
                clear hox hr hf rd BM HR HQ HA HB
                go_wp2_with fail
                refine (pick_any _ 3 M gq 1 0 _ (Sl.of_blk BM1.out 3 hMl (by simp [maxLen])) HQ1.out (by omega) (by intro j hj; injection hj with hj; simp only at hj; omega)).mono ?_
                rintro e x2 ⟨vy, rfl, hoy, hq, hf⟩
                rw [HY.out] at hoy
                rw [nx_none _ _ _ (by omega)] at hq
                obtain ⟨gy, cy, rfl, hgy, _⟩ := hoy.form (by simp)
                simp only [List.length_singleton] at hoy ⊢
                have hyl := (hoy.lt gy rfl).2
                have SX2 := Lib.hid (SX1.out.frm hf (by intro g hg e; injection hg with hg; simp only at hg; omega))
                have SY2 := Lib.hid (Sl.of_own hoy (i64s_one _))
                have HR2 := Lib.hid (Blk.frm HR1.out hf hrq)
                have HQ2 := Lib.hid hq
                have HA2 := Lib.hid (Blk.frm HA1.out hf hqa.symm)
                have BM2 := Lib.hid (BM1.out.frm hf hqm)
                have HB2 := Lib.hid (Frm.below HB1.out hf (by omega) (by rintro j rfl; omega))
                have z2_ := hf.size
                clear hoy hq hf SX1 HR1 HQ1 HA1 BM1 HB1
                go_wp2_with fail
                refine (pick_any _ 3 M ga 3 0 _ (Sl.of_blk BM2.out 3 hMl (by simp [maxLen])) HA2.out (by omega) (by intro j hj; injection hj with hj; simp only at hj; omega)).mono ?_
                rintro e x3 ⟨vz, rfl, hoz, ha, hf⟩
                rw [HZA.out] at hoz
                rw [nx_none _ _ _ (by omega)] at ha
                obtain ⟨gz, cz, rfl, hgz, _⟩ := hoz.form (by simp)
                simp only [List.length_cons, List.length_nil] at hoz ⊢
                have SX3 := Lib.hid (SX2.out.frm hf (by intro g hg e; injection hg with hg; simp only at hg; omega))
                have SY3 := Lib.hid (SY2.out.frm hf (by intro g hg e; injection hg with hg; simp only at hg; omega))
                have SZ3 := Lib.hid (Sl.of_own hoz (i64s_one _))
                have HR3 := Lib.hid (Blk.frm HR2.out hf hra)
                have HQ3 := Lib.hid (Blk.frm HQ2.out hf hqa)
                have HA3 := Lib.hid ha
                have BM3 := Lib.hid (BM2.out.frm hf ham)
                have HB3 := Lib.hid (Frm.below HB2.out hf (by omega) (by rintro j rfl; omega))
                have z3_ := hf.size
                clear hoz ha hf SX2 SY2 HR2 HQ2 HA2 BM2 HB2
                have c_x : x3.cell? ⟨gx, 0, none⟩ = some (.int .i64 wn) := sl_cell SX3.out (by omega)
                have c_y : x3.cell? ⟨gy, 0, none⟩ = some (.int .i64 (y : Int)) := sl_cell SY3.out (by omega)
                have c_z0 : x3.cell? ⟨gz, 0, none⟩ = some (.int .i64 (z0 : Int)) := sl_cell SZ3.out (by omega)
                have c_z1 : x3.cell? ⟨gz, 1, none⟩ = some (.int .i64 (z1 : Int)) := sl_cell SZ3.out (by omega)
                have c_my : x3.cell? ⟨w.heap.size, y, none⟩ = some (.int .i64 (M.getD y 0)) := sl_cell (Sl.of_blk BM3.out 3 hMl (by simp [maxLen])) hy3
                have c_mu : x3.cell? ⟨w.heap.size, u, none⟩ = some (.int .i64 (M.getD u 0)) := sl_cell (Sl.of_blk BM3.out 3 hMl (by simp [maxLen])) hu3
                generalize M.getD y 0 = my at c_my hle
                generalize M.getD u 0 = mu at c_mu hle
                generalize (z0 : Int) = zi0 at c_z0 hz0 hzz
                generalize (z1 : Int) = zi1 at c_z1 hz1 hzz
                have t1 : decide ((y : Int) = (gn : Int)) = false := by simpa using hyg
                have t1b : ((y : Int) == (gn : Int)) = false := by simpa using hyg
                have t2 : decide (zi0 = (gn : Int)) = false := by simpa using hz0
                have t2b : (zi0 == (gn : Int)) = false := by simpa using hz0
                have t3 : decide (zi1 = (gn : Int)) = false := by simpa using hz1
                have t3b : (zi1 == (gn : Int)) = false := by simpa using hz1
                have t4 : decide (zi1 ≤ zi0) = false := by simp; omega
                have t5 : decide (mu < my) = false := by simp; omega
                have t6 : decide ((y : Int) < 0) = false := by simp
                have t7 : decide ((2 : Int) < (y : Int)) = false := by simp; omega
                have y0 : (0 : Int) ≤ (y : Int) := by omega
                have y3 : (y : Int) < 3 := by omega
                have u0 : (0 : Int) ≤ (u : Int) := by omega
                have u3 : (u : Int) < 3 := by omega
                have iwa : IntKind.i64.wrap (3 - (gn : Int)) = 3 - (gn : Int) := IntWalk.i64_in _ ⟨by omega, by omega⟩
                have iwb : IntKind.i64.wrap (3 - (gn : Int) - (y : Int)) = (u : Int) := by rw [hyu]; exact IntWalk.i64_in _ ⟨by omega, by omega⟩
                have iwu : IntKind.i64.wrap (u : Int) = (u : Int) := IntWalk.i64_in _ ⟨by omega, by omega⟩
                have iwk : IntKind.i64.wrap ((k : Int) + 1) = (k : Int) + 1 := IntWalk.i64_in _ ⟨by omega, by omega⟩
                clear SX3 SY3 SZ3
                go_wp2_with fail
                go_quiet (fail)
                go_wp2_with fail
                go_roundw
                case rel => exact ⟨k + 1, wn, by omega, by go_num, by (first | rfl | rw [hwe]), by omega, by omega, BM3.out.drewN _, HR3.out.drewN _, HQ3.out.drewN _, HA3.out.drewN _, Below.drewN' HB3.out _⟩
                case measure => simp [intOf]; omega
          · have k1 : ¬ (k : Int) < 1 + (R : Int) := by omega
            as_aux_lemma =>
              have cm : wr.cell? ⟨w.heap.size, gn, none⟩ = some (.int .i64 (-1)) := by
                rw [BM.out.cell gn, List.getElem?_toArray, ← hMg]
                simp [i64s, List.getD_eq_getElem?_getD, List.getElem?_eq_getElem (show gn < M.length by omega)]
              have fm := BM.out.free gn
              have BM1 := Lib.hid (BM.out.put gn 0)
              have HR1 : Hid (Sch (wr.setCell ⟨w.heap.size, gn, none⟩ (.int .i64 0)) gr 2 (l + 1)) := Lib.hid (Blk.far HR.out (by simpa using hrm.symm) _)
              have HQ1 : Hid (Sch (wr.setCell ⟨w.heap.size, gn, none⟩ (.int .i64 0)) gq 1 0) := Lib.hid (Blk.far HQ.out (by simpa using hqm.symm) _)
              have HA1 : Hid (Sch (wr.setCell ⟨w.heap.size, gn, none⟩ (.int .i64 0)) ga 3 0) := Lib.hid (Blk.far HA.out (by simpa using ham.symm) _)
              have HB1 := Lib.hid (HB.out.setCell (p := ⟨w.heap.size, gn, none⟩) (Nat.le_refl _) (.int .i64 0))
              obtain ⟨M2, hM⟩ : ∃ M2, M2 = M.set gn 0 := ⟨_, rfl⟩
              have hM2 : M2.length = 3 := by rw [hM]; simpa using hMl
              have hMz : M2.getD gn 0 = 0 := by rw [hM]; simp [List.getD_eq_getElem?_getD, hMl, hg3]
              have hMp : ∀ i, i < 3 → 0 ≤ M2.getD i 0 := fun i hi => by
                by_cases hn : i = gn
                · rw [hn, hMz]; exact Int.le_refl 0
                · have := HMO.out i hi hn
                  rw [List.getD_eq_getElem?_getD] at this
                  rw [hM, List.getD_eq_getElem?_getD, List.getElem?_set_ne (fun e => hn e.symm)]
                  exact this
              rw [← hM] at BM1
              obtain ⟨b1, ⟨yy, b2, yy3, b3⟩, b4⟩ := back M2 gn hM2 hg3 hMz hMp l l0 l2
              have b2h := Lib.hid b2
              have b1h := Lib.hid b1
              have b4h := Lib.hid b4
              clear hM hMp b1 b2 b4 BM HR HQ HA HB
              go_wp2_with fail
              generalize wr.setCell ⟨w.heap.size, gn, none⟩ (.int .i64 0) = v0 at *
              have lm := BM1.out.lt
              have lr := HR1.out.lt
              have lq := HQ1.out.lt
              have la_ := HA1.out.lt
              refine (pick_any _ 3 M2 gr 2 (l + 1) _ (Sl.of_blk BM1.out 3 hM2 (by simp [maxLen])) HR1.out (by omega) (by intro j hj; injection hj with hj; simp only at hj; omega)).mono ?_
              rintro e x1 ⟨vx, rfl, hox, hr, hf⟩
              rw [b1h.out] at hox
              obtain ⟨gx, cx, rfl, hgx, _⟩ := hox.form (by simp)
              simp only [List.length_singleton] at hox ⊢
              have hxl := (hox.lt gx rfl).2
              have SX1 := Lib.hid (Sl.of_own hox (i64s_one _))
              have HQ2 := Lib.hid (Blk.frm HQ1.out hf (by omega))
              have HA2 := Lib.hid (Blk.frm HA1.out hf (by omega))
              have BM2 := Lib.hid (BM1.out.frm hf (by omega))
              have HB2 := Lib.hid (Frm.below HB1.out hf (by omega) (by rintro j rfl; omega))
              have z1_ := hf.size
              clear hox hr hf b1h BM1 HR1 HQ1 HA1 HB1
              go_wp2_with fail
              refine (pick_any _ 3 M2 gq 1 0 _ (Sl.of_blk BM2.out 3 hM2 (by simp [maxLen])) HQ2.out (by omega) (by intro j hj; injection hj with hj; simp only at hj; omega)).mono ?_
              rintro e x2 ⟨vy, rfl, hoy, hq, hf⟩
              rw [b2h.out] at hoy
              obtain ⟨gy, cy, rfl, hgy, _⟩ := hoy.form (by simp)
              simp only [List.length_singleton] at hoy ⊢
              have hyl := (hoy.lt gy rfl).2
              have SX3 := Lib.hid (SX1.out.frm hf (by intro g hg e; injection hg with hg; simp only at hg; omega))
              have SY3 := Lib.hid (Sl.of_own hoy (i64s_one _))
              have HA3 := Lib.hid (Blk.frm HA2.out hf hqa.symm)
              have BM3 := Lib.hid (BM2.out.frm hf hqm)
              have HB3 := Lib.hid (Frm.below HB2.out hf (by omega) (by rintro j rfl; omega))
              have z2_ := hf.size
              clear hoy hq hf SX1 HQ2 HA2 BM2 HB2
              have c_x : x2.cell? ⟨gx, 0, none⟩ = some (.int .i64 ((l + 1) % 3)) := sl_cell SX3.out (by omega)
              have c_y : x2.cell? ⟨gy, 0, none⟩ = some (.int .i64 (yy : Int)) := sl_cell SY3.out (by omega)
              have c_my : x2.cell? ⟨w.heap.size, yy, none⟩ = some (.int .i64 0) := by rw [← b3]; exact sl_cell (Sl.of_blk BM3.out 3 hM2 (by simp [maxLen])) yy3
              have y0 : (0 : Int) ≤ (yy : Int) := by omega
              have y3 : (yy : Int) < 3 := by omega
              clear SX3 SY3
              go_wp2_with fail
              refine (pick_any _ 3 M2 ga 3 0 _ (Sl.of_blk BM3.out 3 hM2 (by simp [maxLen])) HA3.out (by omega) (by intro j hj; injection hj with hj; simp only at hj; omega)).mono ?_
              rintro e x3 ⟨vz, rfl, hoz, ha, hf⟩
              rw [b4h.out] at hoz
              obtain ⟨A4, c4, rfl⟩ := own_slice' hoz
              have HB4 := Lib.hid (Frm.below HB3.out hf (by omega) (by rintro j rfl; omega))
              have z3_ := hf.size
              simp only [List.length_cons, List.length_nil]
              clear hoz ha hf HB3 HA3 BM3 b4h b2h
              go_wp2_with fail
              refine (wakes_any _).mono ?_
              rintro e x4 ⟨rfl, hbk⟩
              have HB5 := Lib.hid (HB4.out.trans (hbk.mono (by omega)))
              clear hbk
              go_wp2_with fail
              go_ret
              exact ⟨rfl, HB5.out⟩

/-! ### THE ROW's STEP: WRITTEN OUT: LEAVE IT -/
set_option maxRecDepth 100000 in
theorem lifted (os : Os) (started : os.Started) (H : Type) (enc : TypeId × Value → H) :
    ReturnsInHanded {} Try.checked os 3 .any (Rows.schedGapsSpec.pre6 enc Try.prog Try.f3 Rows.schedGapsRow.domain false) (Rows.schedGapsSpec.post enc Try.prog Try.f3 false true false false) := by
  refine returnsInHanded_of_change (C := Try.checked) own started (by kernel_rfl) Try.func3
    (ChangeSpec.witness6 (enc := enc) (C := Try.checked) false ⟨#[], #[.int .i64 0, .int .i64 0, .slice none 0 0], []⟩ 8 (by kernel_rfl) (by kernel_rfl) (by kernel_rfl) (by kernel_rfl)) ?_
  intro W base args ds gs before hval0 hW hcnd _
  have hval : ∀ (j : Nat) t v, Try.f3.params[j]? = some t → args[j]? = some v → Value.okWide Try.prog W .any base t v := hval0
  have hW' := hW
  obtain ⟨p, q, hA0, hV, rfl, hfz, hnd⟩ := hW
  have hA : DataW.TrodAll enc Try.prog W 0 (fun _ => true) true Try.f3.params.toList args.toList ds p := hA0
  rw [Try.params3] at hA hval
  obtain ⟨v0, vs0, d0, ds0, p0, q0, hargs, rfl, rfl, h0, r0⟩ := trodAll_cons hA
  obtain ⟨v1, vs1, d1, ds1, p1, q1, rfl, rfl, rfl, h1, r1⟩ := trodAll_cons r0
  obtain ⟨v2, vs2, d2, ds2, p2, q2, rfl, rfl, rfl, h2, r2⟩ := trodAll_cons r1
  obtain ⟨rfl, rfl, rfl⟩ := trodAll_nil r2
  obtain rfl : args = #[v0, v1, v2] := by cases args; simp_all
  obtain ⟨rfl, rfl⟩ := trodVars_none hV
  obtain ⟨a0, rfl, rfl, rfl, w0⟩ := open_int Try.underlying3 (hval 0 3 v0 rfl rfl) h0
  obtain ⟨a1, rfl, rfl, rfl, w1⟩ := open_int Try.underlying3 (hval 1 3 v1 rfl rfl) h1
  obtain ⟨a2, len2, cap2, rfl⟩ := okWide_slice Try.underlying22 (hval 2 22 v2 rfl rfl)
  have k2 := h2
  have lt2 : ∀ x ∈ p2, x.block < W.heap.size := by obtain ⟨m, hm⟩ := k2; exact DataW.trod_lt m _ _ _ hm
  obtain ⟨z2, w2⟩ : ∃ zs, IsRow .i64 W a2 len2 cap2 zs := by
    obtain ⟨fuel, hf⟩ := h2
    rcases open_ints Try.underlying22 Try.underlying3 (by kernel_rfl) hf with ⟨hcs, _⟩ | ⟨x, l, c, zs, hcs, _, hl, hm, hz, _, hcell, hwz⟩
    · simp [Value.cells] at hcs
      obtain ⟨rfl, rfl, rfl⟩ := hcs
      exact ⟨[], .inl ⟨rfl, rfl, rfl, rfl⟩⟩
    · simp [Value.cells] at hcs
      obtain ⟨rfl, rfl, rfl⟩ := hcs
      exact ⟨zs, .inr ⟨_, rfl, hl, hm, by simpa using hz, hcell, hwz⟩⟩
  clear hA0 hval0
  refine (walk a0 a1 a2 len2 cap2 z2 W w0 w1 w2).mono fun e W' ⟨he, bel⟩ => ?_
  subst he
  exact ⟨_, rfl, _, _, _, [], _, [], hW', trodAll_mk1 (shut_bool Try.underlying4 _), (trodAll_cons_mk (shut_int Try.underlying3 w0) (trodAll_cons_mk (shut_int Try.underlying3 w1) (trodAll_cons_mk (Below.trod laidOut (by kernel_rfl) (of_decide_eq_true (by kernel_rfl)) k2 bel lt2) trodAll_mk0))), rfl, bel.frame _, fun h => by cases h⟩

theorem over : Rows.schedGapsRow.holds Try.pinned (OpenSpec.ofChange Rows.schedGapsSpec) :=
  OpenClaim.holds_of_wide 3 Try.f3 rfl rfl rfl rfl rfl rfl rfl ⟨rfl, rfl, rfl, rfl, rfl⟩ rfl rfl rfl rfl rfl (by kernel_rfl) Try.func3 (by kernel_rfl)
    (of_decide_eq_true (by kernel_rfl)) (by unfold Func.isWrapper; first | (rw [if_pos (by decide +kernel)]; kernel_rfl) | (rw [if_neg (by decide +kernel)]; exact ⟨rfl, rfl⟩))
    (fun os started H enc _ => lifted os started H enc)

/-- ████ THE STATEMENT ████ -/
theorem proved : Rows.SchedGapsSaid := over
#print axioms proved
end Go.Proofs.Ytnpapjocobgpnaa.schedGaps
