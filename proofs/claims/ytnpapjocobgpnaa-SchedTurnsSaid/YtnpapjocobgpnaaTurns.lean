/- Proved: SchedTurns returns true for every input, and leaves its arguments as they were; no further condition.
   The frame around the walk was written by the guide's proof-skeleton program. -/
import Derived.Test.YtnpapjocobgpnaaRows
import Derived.Test.YtnpapjocobgpnaaTm
import Derived.BigQuiet
import Derived.Test.YtnpapjocobgpnaaHM
import Derived.WalkKit
import Derived.ProofKit
import Derived.OpenShut
import Derived.ShutString
import Derived.ChangeOld
import Derived.Below
namespace Go.Proofs.Ytnpapjocobgpnaa.schedTurns
open Go.ChangeShapes Go.WideShapes Go.ChangeAt Go.RowKit
open Go.ChangeMaps (open_string shut_string)
set_option linter.unusedVariables false

theorem own : ownKnob Try.prog.godebug = none := by kernel_rfl
theorem laidOut : laidOutB Try.prog = true := by kernel_rfl

/-- WHAT THE WALK IS TOLD OF A SLICE OF INTEGERS THAT CAME IN: it is nil; or it leads to a row of 'cap' cells, the numbers 'zs' (the first 'len' are its elements, the rest its spare room), each fitting its kind. -/
def IsRow (k : IntKind) (w : World) (a : Option Addr) (len cap : Nat) (zs : List Int) : Prop :=
  (a = none ∧ len = 0 ∧ cap = 0 ∧ zs = []) ∨
  ∃ x, a = some x ∧ len ≤ cap ∧ cap ≤ maxLen ∧ zs.length = cap ∧ (∀ i, i < zs.length → w.cell? (x.add i) = some (.int k (zs.getD i 0))) ∧ ∀ n ∈ zs, (Lit.int k n).wf = true

/-! ### STEP 1: THE WALK: the Go text returns true, AND WRITES NOTHING THAT WAS THERE: 'Below w.heap.size w w'' (Derived/Below.lean: '.refl', '.alloc', '.drew', '.setCell' at a new block, '.trans'). Open each 'IsRow' by 'rcases' AHEAD of 'go_enter'; part every test ahead of the walk. -/
set_option maxHeartbeats 16000000 in
set_option maxRecDepth 100000 in
theorem walk (a0 : Int) (a1 : Int) (a2 : Option Addr) (len2 cap2 : Nat) (z2 : List Int) (w : World) (w0 : (Lit.int .i64 a0).wf = true) (w1 : (Lit.int .i64 a1).wf = true) (w2 : IsRow .i64 w a2 len2 cap2 z2) :
    Calls Try.prog 5 #[.int .i64 a0, .int .i64 a1, .slice a2 len2 cap2] w fun e w' => e = .returned (.bool true) ∧ Below w.heap.size w w' := by
  obtain ⟨zs, hzs⟩ := ints_of_row w2
  have HZ := Lib.hid hzs
  have hln : len2 ≤ maxLen := by obtain ⟨_, _, e, h1, h2⟩ := hzs.len; injection e; omega
  have HI := Lib.hid Try.info3
  clear hzs w0 w1 w2
  obtain ⟨n, hn⟩ : ∃ n : Nat, (n : Int) = 1 + a0 % 3 := ⟨(1 + a0 % 3).toNat, Int.toNat_of_nonneg (by have := Int.emod_nonneg a0 (b := 3) (by omega); omega)⟩
  obtain ⟨R, hR⟩ : ∃ n : Nat, (n : Int) = 1 + a1 % 5 := ⟨(1 + a1 % 5).toNat, Int.toNat_of_nonneg (by have := Int.emod_nonneg a1 (b := 5) (by omega); omega)⟩
  have n0 : 0 < n := by omega
  have n4 : n < 4 := by omega
  have R0 : 0 < R := by omega
  have R6 : R < 6 := by omega
  have iwn : IntKind.i64.wrap (1 + a0 % 3) = (n : Int) := by rw [hn]; exact IntWalk.i64_in _ ⟨by omega, by omega⟩
  have iwR : IntKind.i64.wrap (1 + a1 % 5) = (R : Int) := by rw [hR]; exact IntWalk.i64_in _ ⟨by omega, by omega⟩
  have hmk := fun W => make_eq (P := Try.prog) 22 3 (.int .i64 0) 8 Try.underlying22 HI.out rfl n (by omega) (by omega) W
  clear hn hR
  go_enter Try.func5, Try.ntmps5
  go_wp2_with fail
  refine (within_any a0 3 _ (by omega) (by omega)).mono ?_
  rintro e _ ⟨rfl, rfl⟩
  go_wp2_with fail
  refine (within_any a1 5 _ (by omega) (by omega)).mono ?_
  rintro e _ ⟨rfl, rfl⟩
  go_wp2_with fail
  refine (new_any 2 _).mono ?_
  rintro e w1 ⟨gs, rfl, hgs, hs, hb1⟩
  have HS1 := Lib.hid hs
  have HB1 := Lib.hid hb1
  have s1 : w.heap.size ≤ w1.heap.size := hb1.size
  clear hs hb1
  go_wp2_with fail
  refine (new_any 1 _).mono ?_
  rintro e w2 ⟨gq, rfl, hgq, hq, hb2⟩
  have HS2 := Lib.hid (HS1.out.below hb2)
  have HQ2 := Lib.hid hq
  have HB2 := Lib.hid (HB1.out.trans (hb2.mono s1))
  have s2 : w.heap.size ≤ w2.heap.size := Nat.le_trans s1 hb2.size
  have hgsl := HS1.out.lt
  have hlq : w1.heap.size ≤ w2.heap.size := hb2.size
  clear hq hb2 HS1 HB1
  go_wp2_with fail
  refine (new_any 3 _).mono ?_
  rintro e w3 ⟨ga, rfl, hga, ha, hb3⟩
  have HS3 := Lib.hid (HS2.out.below hb3)
  have HQ3 := Lib.hid (HQ2.out.below hb3)
  have HA3 := Lib.hid ha
  have HB3 := Lib.hid (HB2.out.trans (hb3.mono s2))
  have s3 : w.heap.size ≤ w3.heap.size := Nat.le_trans s2 hb3.size
  have hgql := HQ2.out.lt
  have hgal := HA3.out.lt
  have hlq3 : w2.heap.size ≤ w3.heap.size := hb3.size
  clear ha hb3 HS2 HQ2 HB2
  have hrq : gs ≠ gq := by omega
  have hra : gs ≠ ga := by omega
  have hqa : gq ≠ ga := by omega
  obtain ⟨b0, hb0⟩ : ∃ b, b = w3.heap.size := ⟨_, rfl⟩
  have bs : gs < b0 := by omega
  have bq : gq < b0 := by omega
  have ba : ga < b0 := by omega
  have bw : w.heap.size ≤ b0 := by omega
  go_wp2_with fail
  go_loopw [10, 11, 12] (fun v i _ wr => ∃ (k : Nat) (ms : List Int), k ≤ n ∧ i = .int .i64 k ∧ ms.length = k ∧ (∀ x ∈ ms, 0 ≤ x ∧ x ≤ 1000) ∧ wr.ownsRow b0 3 1 v k (i64s ms) ∧ b0 ≤ wr.heap.size ∧ Sch wr gs 2 0 ∧ Sch wr gq 1 0 ∧ Sch wr ga 3 0 ∧ Below w.heap.size w wr) (fun _ i _ _ => n - (intOf i).toNat)
  case atStart => exact ⟨0, [], by omega, rfl, rfl, by simp, World.ownsRow_nil _ _ _ _, by omega, HS3.out, HQ3.out, HA3.out, HB3.out⟩
  case round =>
    obtain ⟨k, ms, hk, rfl, hms, hms0, hbm, hbz, hs, hq, ha, hb⟩ := hrel
    clear HS3 HQ3 HA3 HB3
    have BM := Lib.hid hbm
    have HS := Lib.hid hs
    have HQ := Lib.hid hq
    have HA := Lib.hid ha
    have HB := Lib.hid hb
    have H0 := Lib.hid hms0
    have iwk : IntKind.i64.wrap ((k : Int) + 1) = (k : Int) + 1 := IntWalk.i64_in _ ⟨by omega, by omega⟩
    clear hbm hs hq ha hb hms0
    by_cases hkn : k < n
    · have k1 : (k : Int) < (n : Int) := by omega
      have k0 : (0 : Int) ≤ (k : Int) := by omega
      by_cases hlt : k < len2
      · have j1 : (k : Int) < (len2 : Int) := by omega
        obtain ⟨ad, rfl, cz⟩ := (HZ.out.below HB.out).at_ hlt
        have hzl := sl_len HZ.out
        rw [i64s_getD _ _ (by omega)] at cz
        obtain ⟨z, hz⟩ : ∃ z, z = zs.getD k 0 := ⟨_, rfl⟩
        rw [← hz] at cz
        clear hz hzl
        go_wp2_with fail
        refine (within_any z 20 _ (by omega) (by omega)).mono ?_
        rintro e _ ⟨rfl, rfl⟩
        have x0 : 0 ≤ z % 20 := Int.emod_nonneg _ (by omega)
        have x9 : z % 20 < 20 := Int.emod_lt_of_pos _ (by omega)
        obtain ⟨x, hx⟩ : ∃ x, x = z % 20 := ⟨_, rfl⟩
        rw [← hx] at x0 x9 ⊢
        clear hx cz
        go_wp2_with (at_builtin; refine wp_app b0 rfl _ _ 22 3 (.int .i64 0) 1 8 rfl Try.underlying22 HI.out rfl (by omega) (by omega) rfl rfl (BM.out.alloc _) (Sl.one _ _ _ rfl) (by omega) (Nat.le_trans hbz (by simp)) ?_; intro v1 w4 hown hfr hat)
        have HO1 := Lib.hid hown
        have HB1 : Hid (Below w.heap.size w w4) := Frm.below (HB.out.alloc HB.out.size _) hfr (Nat.le_trans HB.out.size (by simp)) (fun g hg => Nat.le_trans bw (BM.out.lt g hg).1)
        have HS1 := Lib.hid (Blk.frm (HS.out.alloc _) hfr (fun e => by have := (BM.out.lt gs e).1; omega))
        have HQ1 := Lib.hid (Blk.frm (HQ.out.alloc _) hfr (fun e => by have := (BM.out.lt gq e).1; omega))
        have HA1 := Lib.hid (Blk.frm (HA.out.alloc _) hfr (fun e => by have := (BM.out.lt ga e).1; omega))
        have hbz1 : b0 ≤ w4.heap.size := Nat.le_trans hbz (Nat.le_trans (by simp) hfr.size)
        clear hown hfr hat
        go_wp2_with fail
        go_roundw
        case rel => exact ⟨k + 1, ms ++ [x], by omega, by go_num, by simpa using hms, fun y hy => by
            rcases List.mem_append.1 hy with h | h
            · exact H0.out y h
            · simp at h; omega, by rw [i64s, List.map_append]; exact HO1.out, hbz1, HS1.out, HQ1.out, HA1.out, HB1.out⟩
        case measure => simp [intOf]; omega
      · have j1 : ¬ (k : Int) < (len2 : Int) := by omega
        go_wp2_with (at_builtin; refine wp_app b0 rfl _ _ 22 3 (.int .i64 0) 1 8 rfl Try.underlying22 HI.out rfl (by omega) (by omega) rfl rfl (BM.out.alloc _) (Sl.one _ _ _ rfl) (by omega) (Nat.le_trans hbz (by simp)) ?_; intro v1 w4 hown hfr hat)
        have HO1 := Lib.hid hown
        have HB1 : Hid (Below w.heap.size w w4) := Frm.below (HB.out.alloc HB.out.size _) hfr (Nat.le_trans HB.out.size (by simp)) (fun g hg => Nat.le_trans bw (BM.out.lt g hg).1)
        have HS1 := Lib.hid (Blk.frm (HS.out.alloc _) hfr (fun e => by have := (BM.out.lt gs e).1; omega))
        have HQ1 := Lib.hid (Blk.frm (HQ.out.alloc _) hfr (fun e => by have := (BM.out.lt gq e).1; omega))
        have HA1 := Lib.hid (Blk.frm (HA.out.alloc _) hfr (fun e => by have := (BM.out.lt ga e).1; omega))
        have hbz1 : b0 ≤ w4.heap.size := Nat.le_trans hbz (Nat.le_trans (by simp) hfr.size)
        clear hown hfr hat
        go_wp2_with fail
        go_roundw
        case rel => exact ⟨k + 1, ms ++ [3], by omega, by go_num, by simpa using hms, fun y hy => by
            rcases List.mem_append.1 hy with h | h
            · exact H0.out y h
            · simp at h; omega, by rw [i64s, List.map_append]; exact HO1.out, hbz1, HS1.out, HQ1.out, HA1.out, HB1.out⟩
        case measure => simp [intOf]; omega
    · obtain rfl : k = n := by omega
      obtain ⟨W0, hW0⟩ : ∃ W, W = wr := ⟨_, rfl⟩
      subst hW0
      have hM0 : ∀ i, i < k → 0 ≤ ms.getD i 0 := fun i hi => by
        rw [List.getD_eq_getElem?_getD, List.getElem?_eq_getElem (by omega)]
        exact (H0.out _ (List.getElem_mem _)).1
      obtain ⟨y, hy, hy3, hym⟩ := turn_quick ms k hms n4 n0 hM0
      have hall := turn_all ms k hms hM0
      have HY := Lib.hid hy
      have HYM := Lib.hid hym
      have HALL := Lib.hid hall
      have RND := Lib.hid (turn_round ms k hms n4 n0 hM0)
      have hmz : (madeCells #[.int .i64 0] k) = (i64s (cntN k 0)).toArray := by
        rw [cnt_zero k n4 n0, ← Array.toList_inj, toList_madeCells_one]
        simp [i64s]
      obtain ⟨gm, cm, rfl, hgm, _⟩ := BM.out.form (by omega)
      have SM := Lib.hid (Sl.of_own BM.out (i64s_one _))
      have hgml := (BM.out.lt gm rfl).2
      have iwRn : IntKind.i64.wrap ((R : Int) * (k : Int)) = ((R * k : Nat) : Int) := by
        have : R * k ≤ 15 := Nat.mul_le_mul (show R ≤ 5 by omega) (show k ≤ 3 by omega)
        rw [← Int.natCast_mul]
        exact IntWalk.i64_in _ ⟨by omega, by omega⟩
      have hRn : R * k ≤ 15 := Nat.mul_le_mul (show R ≤ 5 by omega) (show k ≤ 3 by omega)
      obtain ⟨L, hL⟩ : ∃ L, L = R * k := ⟨_, rfl⟩
      have hmd : (R : Int) * (k : Int) = (L : Int) := by rw [hL, Int.natCast_mul]
      rw [← hL] at iwRn hRn
      have HL := Lib.hid hL
      clear hy hym hall hM0 H0 hL
      go_wp2_with fail
      have BC := Lib.hid (Blk.new W0 (i64s (cntN k 0)).toArray 3)
      go_loopw [14, 15] (fun i _ wq => ∃ j : Nat, j ≤ L ∧ i = .int .i64 j ∧ Blk wq W0.heap.size (i64s (cntN k j)).toArray 3 ∧ Sl wq 1 (.slice (some ⟨gm, 0, none⟩) k cm) k (i64s ms) ∧ Sch wq gs 2 (nxtN k j : Nat) ∧ Sch wq gq 1 0 ∧ Sch wq ga 3 0 ∧ Below w.heap.size w wq) (fun i _ _ => L - (intOf i).toNat)
      case atStart => exact ⟨0, by omega, rfl, BC.out, SM.out.alloc _, HS.out.alloc _, HQ.out.alloc _, HA.out.alloc _, HB.out.alloc HB.out.size _⟩
      case round =>
        obtain ⟨j, hj, rfl, hc, hsm, hs, hq, ha, hb⟩ := hrel
        clear BC SM HS HQ HA HB
        have BC := Lib.hid hc
        have SM := Lib.hid hsm
        have HS := Lib.hid hs
        have HQ := Lib.hid hq
        have HA := Lib.hid ha
        have HB := Lib.hid hb
        have lm := hc.lt
        clear hc hsm hs hq ha hb
        by_cases hjL : j < L
        · have j1 : (j : Int) < (L : Int) := by omega
          have rd := RND.out j (by omega)
          obtain ⟨q, hq⟩ : ∃ q, q = j % k := ⟨_, rfl⟩
          have hqk : q < k := by rw [hq]; exact Nat.mod_lt _ n0
          have htm : (j : Int).tmod (k : Int) = (q : Int) := by rw [Int.tmod_eq_emod_of_nonneg (by omega), hq, Int.natCast_emod]
          rw [← hq] at rd
          have hk0 : ¬ (k : Int) = 0 := by omega
          have hst := Lib.hid (cnt_step k n4 n0 j (by omega))
          rw [← hq] at hst
          have hsm2 := cnt_small k n4 n0 j (by omega)
          go_wp2_with fail
          refine (pick_any _ k ms gs 2 _ _ SM.out HS.out (by omega) (by intro j hj; injection hj with hj; simp only at hj; omega)).mono ?_
          rintro e x1 ⟨vx, rfl, hox, hs, hf⟩
          rw [rd.1] at hox
          rw [rd.2] at hs
          obtain ⟨gx, cx, rfl, hgx, _⟩ := hox.form (by simp)
          simp only [List.length_singleton] at hox ⊢
          have c_x : x1.cell? ⟨gx, 0, none⟩ = some (.int .i64 (q : Int)) := sl_cell (Sl.of_own hox (i64s_one _)) (by omega)
          have BC1 := Lib.hid (BC.out.frm hf (by omega))
          have SM1 := Lib.hid (SM.out.frm hf (by intro g hg e; injection hg with hg; simp only at hg; omega))
          have HS1 := Lib.hid hs
          have HQ1 := Lib.hid (Blk.frm HQ.out hf hrq.symm)
          have HA1 := Lib.hid (Blk.frm HA.out hf hra.symm)
          have HB1 := Lib.hid (Frm.below HB.out hf (by omega) (by rintro j rfl; omega))
          clear hox hs hf rd BC SM HS HQ HA HB hq
          have q1 : (q : Int) < (k : Int) := by omega
          have q0 : (0 : Int) ≤ (q : Int) := by omega
          have c_c : x1.cell? ⟨W0.heap.size, q, none⟩ = some (.int .i64 ((cntN k j).getD q 0)) := sl_cell (Sl.of_blk BC1.out k (cnt_length k j) (by unfold maxLen; omega)) hqk
          have f_c := BC1.out.free q
          obtain ⟨x, hx⟩ : ∃ x, x = (cntN k j).getD q 0 := ⟨_, rfl⟩
          have hxb : 0 ≤ x ∧ x ≤ 100 := by
            rw [hx, List.getD_eq_getElem?_getD, List.getElem?_eq_getElem (by rw [cnt_length]; exact hqk)]
            exact hsm2 _ (List.getElem_mem _)
          have iwx : IntKind.i64.wrap (x + 1) = x + 1 := IntWalk.i64_in _ ⟨by omega, by omega⟩
          have iwj : IntKind.i64.wrap ((j : Int) + 1) = (j : Int) + 1 := IntWalk.i64_in _ ⟨by omega, by omega⟩
          have iwq : IntKind.i64.wrap (q : Int) = (q : Int) := IntWalk.i64_in _ ⟨by omega, by omega⟩
          rw [← hx] at c_c hst
          have BC2 : Hid (Blk (x1.setCell ⟨W0.heap.size, q, none⟩ (.int .i64 (x + 1))) W0.heap.size (i64s (cntN k (j + 1))).toArray 3) := by
            rw [hst.out]
            exact BC1.out.put q (x + 1)
          have SM2 := Lib.hid (SM1.out.frm ((Frm.refl (· = W0.heap.size) x1).setg (i := q) (.int .i64 (x + 1))) (by intro g hg e; injection hg with hg; simp only at hg; omega))
          have HS2 : Hid (Sch (x1.setCell ⟨W0.heap.size, q, none⟩ (.int .i64 (x + 1))) gs 2 (nxtN k (j + 1) : Nat)) := Lib.hid (Blk.far HS1.out (by simp; omega) _)
          have HQ2 : Hid (Sch (x1.setCell ⟨W0.heap.size, q, none⟩ (.int .i64 (x + 1))) gq 1 0) := Lib.hid (Blk.far HQ1.out (by simp; omega) _)
          have HA2 : Hid (Sch (x1.setCell ⟨W0.heap.size, q, none⟩ (.int .i64 (x + 1))) ga 3 0) := Lib.hid (Blk.far HA1.out (by simp; omega) _)
          have HB2 := Lib.hid (HB1.out.setCell (p := ⟨W0.heap.size, q, none⟩) (by simp; omega) (.int .i64 (x + 1)))
          clear hx hsm2 BC1 SM1 HS1 HQ1 HA1 HB1
          go_wp2_with fail
          go_quiet (fail)
          go_wp2_with fail
          go_roundw
          case rel => exact ⟨j + 1, by omega, by go_num, BC2.out.drewN _, SM2.out.drewN _, HS2.out.drewN _, HQ2.out.drewN _, HA2.out.drewN _, Below.drewN' HB2.out _⟩
          case measure => simp [intOf]; omega
        · obtain rfl : L = j := by omega
          have hce : cntN k L = List.replicate k (R : Int) := by rw [HL.out]; exact cnt_end k n4 n0 R R6
          rw [hce] at BC
          go_wp2_with fail
          go_loopw [91, 16] (fun i _ wq => ∃ d m : Nat, d ≤ k ∧ i = .int .i64 d ∧ wq = wr.drewN m) (fun i _ _ => k - (intOf i).toNat)
          case atStart => exact ⟨0, 0, by omega, rfl, rfl⟩
          case round =>
            obtain ⟨d, m, hd, rfl, rfl⟩ := hrel
            have iwd : IntKind.i64.wrap ((d : Int) + 1) = (d : Int) + 1 := IntWalk.i64_in _ ⟨by omega, by omega⟩
            by_cases hdk : d < k
            · have d1 : (d : Int) < (k : Int) := by omega
              have d0 : (0 : Int) ≤ (d : Int) := by omega
              have c_d : wr.cell? ⟨W0.heap.size, d, none⟩ = some (.int .i64 (R : Int)) := by
                rw [sl_cell (Sl.of_blk BC.out k (by simp) (by unfold maxLen; omega)) hdk]
                simp [List.getD_eq_getElem?_getD, hdk]
              go_wp2_with fail
              go_roundw
              case rel => exact ⟨d + 1, _, by omega, by go_num, rfl⟩
              case measure => simp [intOf]; omega
            · have d1 : ¬ (d : Int) < (k : Int) := by omega
              go_wp2_with fail
              refine (pick_any _ k ms gq 1 0 _ (SM.out.drewN _) (HQ.out.drewN _) (by omega) (by intro j hj; injection hj with hj; simp only at hj; omega)).mono ?_
              rintro e x1 ⟨vx, rfl, hox, hs, hf⟩
              rw [HY.out] at hox
              obtain ⟨gx, cx, rfl, hgx, _⟩ := hox.form (by simp)
              simp only [List.length_singleton] at hox ⊢
              have hxl := (hox.lt gx rfl).2
              have SX1 := Lib.hid (Sl.of_own hox (i64s_one _))
              have SM1 := Lib.hid ((SM.out.drewN m).frm hf (by intro g hg e; injection hg with hg; simp only at hg; omega))
              have HS1 := Lib.hid (Blk.frm (HS.out.drewN m) hf hrq)
              have HA1 := Lib.hid (Blk.frm (HA.out.drewN m) hf hqa.symm)
              have HB1 := Lib.hid (Frm.below (Below.drewN' HB.out m) hf (by have := HB.out.size; exact this) (by rintro j rfl; omega))
              have z1 := hf.size
              have z0 := HB.out.size
              have lga := HA.out.lt
              have hgx' : wr.heap.size ≤ gx := hgx
              clear hox hs hf BC SM HS HQ HA HB
              go_wp2_with fail
              refine (pick_any _ k ms ga 3 0 _ SM1.out HA1.out (by omega) (by intro j hj; injection hj with hj; simp only at hj; omega)).mono ?_
              rintro e x2 ⟨vy, rfl, hoy, hs, hf⟩
              rw [HALL.out] at hoy
              have hul : (upTo k).length = k := by simp [upTo]
              rw [hul] at hoy
              obtain ⟨gy, cy, rfl, hgy, _⟩ := hoy.form (by omega)
              have hgaw := HA1.out.lt
              have SX2 := Lib.hid (SX1.out.frm hf (by intro g hg e; injection hg with hg; simp only at hg; omega))
              have SM2 := Lib.hid (SM1.out.frm hf (by intro g hg e; injection hg with hg; simp only at hg; omega))
              have SY2 := Lib.hid (Sl.of_own hoy (i64s_one _))
              have HS2 := Lib.hid (Blk.frm HS1.out hf hra)
              have HB2 := Lib.hid (Frm.below HB1.out hf (Nat.le_trans z0 z1) (by rintro j rfl; omega))
              have z2 := hf.size
              clear hoy hs hf SX1 SM1 HS1 HA1 HB1
              have c_x : x2.cell? ⟨gx, 0, none⟩ = some (.int .i64 (y : Int)) := sl_cell SX2.out (by omega)
              have y1 : (y : Int) < (k : Int) := by omega
              have y0 : (0 : Int) ≤ (y : Int) := by omega
              have t1 : decide ((y : Int) < 0) = false := by simp
              have t2 : decide ((k : Int) ≤ (y : Int)) = false := by simp; omega
              have t3 : decide (k ≤ y) = false := by simp; omega
              have t4 : ¬ k ≤ y := by omega
              go_wp2_with fail
              have lgs := HS2.out.lt
              go_loopw [131, 19] (fun i _ wq => ∃ d m : Nat, d ≤ k ∧ i = .int .i64 d ∧ wq = x2.drewN m) (fun i _ _ => k - (intOf i).toNat)
              case atStart => exact ⟨0, 0, by omega, rfl, rfl⟩
              case round =>
                obtain ⟨d, m, hd, rfl, rfl⟩ := hrel
                have iwd : IntKind.i64.wrap ((d : Int) + 1) = (d : Int) + 1 := IntWalk.i64_in _ ⟨by omega, by omega⟩
                by_cases hdk : d < k
                · have d1 : (d : Int) < (k : Int) := by omega
                  have d0 : (0 : Int) ≤ (d : Int) := by omega
                  have hm := HYM.out d hdk
                  have c_md : x2.cell? ⟨gm, d, none⟩ = some (.int .i64 (ms.getD d 0)) := sl_cell SM2.out hdk
                  have c_my : x2.cell? ⟨gm, y, none⟩ = some (.int .i64 (ms.getD y 0)) := sl_cell SM2.out hy3
                  have c_yd : x2.cell? ⟨gy, d, none⟩ = some (.int .i64 (d : Int)) := by
                    rw [sl_cell SY2.out hdk]
                    simp [upTo, List.getD_eq_getElem?_getD, hdk]
                  generalize ms.getD d 0 = p at c_md hm
                  generalize ms.getD y 0 = r at c_my hm
                  have u1 : decide (p < r) = false := by simp; omega
                  have u2 : ¬ p < r := by omega
                  by_cases hpr : p = r
                  · have v1 : decide (d < y) = false := by have := hm.2 hpr; simp; omega
                    have v2 : ¬ d < y := by have := hm.2 hpr; omega
                    have v3 : decide ((d : Int) < (y : Int)) = false := by have := hm.2 hpr; simp; omega
                    clear hm u1 u2
                    subst hpr
                    go_wp2_with fail
                    try (go_quiet (fail); go_wp2_with fail)
                    go_roundw
                    case rel => exact ⟨d + 1, _, by omega, by go_num, rfl⟩
                    case measure => simp [intOf]; omega
                  · have v1 : decide (p = r) = false := by simpa using hpr
                    have v2 : (p == r) = false := by simpa using hpr
                    clear hm
                    go_wp2_with fail
                    try (go_quiet (fail); go_wp2_with fail)
                    go_roundw
                    case rel => exact ⟨d + 1, _, by omega, by go_num, rfl⟩
                    case measure => simp [intOf]; omega
                · have d1 : ¬ (d : Int) < (k : Int) := by omega
                  go_wp2_with fail
                  refine (pick_any _ 2 [-1, -2] gs 2 _ _ (Sl.box _ 3 #[.int .i64 (-1), .int .i64 (-2)] 2 rfl (by simp [maxLen]) (by simp [Value.oneCell'])) ((HS2.out.drewN m).alloc _) (by omega) (by intro j hj; injection hj with hj; simp only at hj; subst hj; have : gs < x2.heap.size := lgs; exact Nat.ne_of_gt this)).mono ?_
                  rintro e x4 ⟨v4, rfl, ho, hs, hf⟩
                  rw [pick_none] at ho
                  obtain ⟨A4, c4, rfl⟩ := own_slice' ho
                  have z4 : w.heap.size ≤ x2.heap.size := HB2.out.size
                  have HB4 := Lib.hid (Frm.below ((Below.drewN' HB2.out m).alloc z4 _) hf (Nat.le_trans z4 (by simp)) (by rintro j rfl; omega))
                  clear ho hs hf
                  go_wp2_with fail
                  refine (wakes_any _).mono ?_
                  rintro e x5 ⟨rfl, hbk⟩
                  have HB5 := Lib.hid (HB4.out.trans (hbk.mono HB4.out.size))
                  clear hbk
                  go_wp2_with fail
                  go_ret
                  exact ⟨rfl, HB5.out⟩

/-! ### THE ROW's STEP: WRITTEN OUT: LEAVE IT -/
set_option maxRecDepth 100000 in
theorem lifted (os : Os) (started : os.Started) (H : Type) (enc : TypeId × Value → H) :
    ReturnsInHanded {} Try.checked os 5 .any (Rows.schedTurnsSpec.pre6 enc Try.prog Try.f5 Rows.schedTurnsRow.domain false) (Rows.schedTurnsSpec.post enc Try.prog Try.f5 false true false false) := by
  refine returnsInHanded_of_change (C := Try.checked) own started (by kernel_rfl) Try.func5
    (ChangeSpec.witness6 (enc := enc) (C := Try.checked) false ⟨#[], #[.int .i64 0, .int .i64 0, .slice none 0 0], []⟩ 8 (by kernel_rfl) (by kernel_rfl) (by kernel_rfl) (by kernel_rfl)) ?_
  intro W base args ds gs before hval0 hW hcnd _
  have hval : ∀ (j : Nat) t v, Try.f5.params[j]? = some t → args[j]? = some v → Value.okWide Try.prog W .any base t v := hval0
  have hW' := hW
  obtain ⟨p, q, hA0, hV, rfl, hfz, hnd⟩ := hW
  have hA : DataW.TrodAll enc Try.prog W 0 (fun _ => true) true Try.f5.params.toList args.toList ds p := hA0
  rw [Try.params5] at hA hval
  obtain ⟨v0, vs0, d0, ds0, p0, q0, hargs, rfl, rfl, h0, r0⟩ := trodAll_cons hA
  obtain ⟨v1, vs1, d1, ds1, p1, q1, rfl, rfl, rfl, h1, r1⟩ := trodAll_cons r0
  obtain ⟨v2, vs2, d2, ds2, p2, q2, rfl, rfl, rfl, h2, r2⟩ := trodAll_cons r1
  obtain ⟨rfl, rfl, rfl⟩ := trodAll_nil r2
  obtain rfl : args = #[v0, v1, v2] := by cases args; simp_all
  obtain ⟨rfl, rfl⟩ := trodVars_none hV
  obtain ⟨a0, rfl, rfl, rfl, w0⟩ := open_int Try.underlying3 (hval 0 3 v0 rfl rfl) h0
  obtain ⟨a1, rfl, rfl, rfl, w1⟩ := open_int Try.underlying3 (hval 1 3 v1 rfl rfl) h1
  obtain ⟨a2, len2, cap2, rfl⟩ := okWide_slice Try.underlying22 (hval 2 22 v2 rfl rfl)
  have k2 := h2
  have lt2 : ∀ x ∈ p2, x.block < W.heap.size := by obtain ⟨m, hm⟩ := k2; exact DataW.trod_lt m _ _ _ hm
  obtain ⟨z2, w2⟩ : ∃ zs, IsRow .i64 W a2 len2 cap2 zs := by
    obtain ⟨fuel, hf⟩ := h2
    rcases open_ints Try.underlying22 Try.underlying3 (by kernel_rfl) hf with ⟨hcs, _⟩ | ⟨x, l, c, zs, hcs, _, hl, hm, hz, _, hcell, hwz⟩
    · simp [Value.cells] at hcs
      obtain ⟨rfl, rfl, rfl⟩ := hcs
      exact ⟨[], .inl ⟨rfl, rfl, rfl, rfl⟩⟩
    · simp [Value.cells] at hcs
      obtain ⟨rfl, rfl, rfl⟩ := hcs
      exact ⟨zs, .inr ⟨_, rfl, hl, hm, by simpa using hz, hcell, hwz⟩⟩
  clear hA0 hval0
  refine (walk a0 a1 a2 len2 cap2 z2 W w0 w1 w2).mono fun e W' ⟨he, bel⟩ => ?_
  subst he
  exact ⟨_, rfl, _, _, _, [], _, [], hW', trodAll_mk1 (shut_bool Try.underlying4 _), (trodAll_cons_mk (shut_int Try.underlying3 w0) (trodAll_cons_mk (shut_int Try.underlying3 w1) (trodAll_cons_mk (Below.trod laidOut (by kernel_rfl) (of_decide_eq_true (by kernel_rfl)) k2 bel lt2) trodAll_mk0))), rfl, bel.frame _, fun h => by cases h⟩

theorem over : Rows.schedTurnsRow.holds Try.pinned (OpenSpec.ofChange Rows.schedTurnsSpec) :=
  OpenClaim.holds_of_wide 5 Try.f5 rfl rfl rfl rfl rfl rfl rfl ⟨rfl, rfl, rfl, rfl, rfl⟩ rfl rfl rfl rfl rfl (by kernel_rfl) Try.func5 (by kernel_rfl)
    (of_decide_eq_true (by kernel_rfl)) (by unfold Func.isWrapper; first | (rw [if_pos (by decide +kernel)]; kernel_rfl) | (rw [if_neg (by decide +kernel)]; exact ⟨rfl, rfl⟩))
    (fun os started H enc _ => lifted os started H enc)

/-- ████ THE STATEMENT ████ -/
theorem proved : Rows.SchedTurnsSaid := over
#print axioms proved
end Go.Proofs.Ytnpapjocobgpnaa.schedTurns
