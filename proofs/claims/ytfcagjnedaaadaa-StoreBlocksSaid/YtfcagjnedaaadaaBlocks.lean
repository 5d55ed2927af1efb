/- Proved: StoreBlocks returns true for every input, and leaves its arguments as they were; no further condition.
   The frame around the walk was written by the guide's proof-skeleton program. -/
import Derived.Test.YtfcagjnedaaadaaRows
import Derived.Test.YtfcagjnedaaadaaCm
import Derived.Deep.RegionHeld3
import Derived.WalkKit
import Derived.ProofKit
import Derived.OpenShut
import Derived.ShutString
import Derived.ChangeOld
import Derived.Below
namespace Go.Proofs.Ytfcagjnedaaadaa.storeBlocks
open Go.ChangeShapes Go.WideShapes Go.ChangeAt Go.RowKit
open Go.ChangeMaps (open_string shut_string)
set_option linter.unusedVariables false

theorem own : ownKnob Try.prog.godebug = none := by kernel_rfl
theorem laidOut : laidOutB Try.prog = true := by kernel_rfl

/-- WHAT THE WALK IS TOLD OF A SLICE OF INTEGERS THAT CAME IN: it is nil; or it leads to a row of 'cap' cells, the numbers 'zs' (the first 'len' are its elements, the rest its spare room), each fitting its kind. -/
def IsRow (k : IntKind) (w : World) (a : Option Addr) (len cap : Nat) (zs : List Int) : Prop :=
  (a = none ∧ len = 0 ∧ cap = 0 ∧ zs = []) ∨
  ∃ x, a = some x ∧ len ≤ cap ∧ cap ≤ maxLen ∧ zs.length = cap ∧ (∀ i, i < zs.length → w.cell? (x.add i) = some (.int k (zs.getD i 0))) ∧ ∀ n ∈ zs, (Lit.int k n).wf = true

/-! ### STEP 1: THE WALK: the Go text returns true, AND WRITES NOTHING THAT WAS THERE: 'Below w.heap.size w w'' (Derived/Below.lean: '.refl', '.alloc', '.drew', '.setCell' at a new block, '.trans'). Open each 'IsRow' by 'rcases' AHEAD of 'go_enter'; part every test ahead of the walk. -/
set_option maxHeartbeats 16000000 in
set_option maxRecDepth 100000 in
theorem walk (a0 : Option Addr) (len0 cap0 : Nat) (z0 : List Int) (a1 : Option Addr) (len1 cap1 : Nat) (z1 : List Int) (w : World) (w0 : IsRow .i64 w a0 len0 cap0 z0) (w1 : IsRow .u8 w a1 len1 cap1 z1) :
    Calls Try.prog 3 #[.slice a0 len0 cap0, .slice a1 len1 cap1] w fun e w' => e = .returned (.bool true) ∧ Below w.heap.size w w' := by
  obtain ⟨zn, hzn⟩ := ints_of_row w0
  have HZ := Lib.hid hzn
  have hl0 : len0 ≤ maxLen := by obtain ⟨_, _, e, h1, h2⟩ := hzn.len; injection e; omega
  obtain ⟨zb, hzb, hwz⟩ := bytes_of_row w1
  have HB := Lib.hid hzb
  have HWZ := Lib.hid hwz
  clear hzn hzb hwz w0 w1 z0 z1
  have HI := Lib.hid Try.info5
  have hmm := @run_makeMap Try.prog
  go_enter Try.func3, Try.ntmps3
  go_wp2_with fail
  refine (new_any _).mono ?_
  rintro e w1 ⟨g, b, rfl, hg, hb, hs, hb1⟩
  have HS1 := Lib.hid hs
  have HB1 := Lib.hid hb1
  have s1 : w.heap.size ≤ w1.heap.size := hb1.size
  have HBB := Lib.hid (HB.out.below hb1)
  have hgl := hs.glt
  have hbl := hs.blt
  clear hs hb1 HB
  go_wp2_with fail
  refine (cutb_any _ _ _ _ 10 HBB.out (by omega)).mono ?_
  rintro e w2 ⟨vb, rfl, hob, hb2⟩
  obtain ⟨Ab, cb, rfl⟩ := own_slice' hob
  have HOB := Lib.hid hob
  have HS2 := Lib.hid (HS1.out.below hb2)
  have HB2 := Lib.hid (HB1.out.trans (hb2.mono s1))
  have s2 : w1.heap.size ≤ w2.heap.size := hb2.size
  clear hob hb2 HS1 HB1 HBB
  obtain ⟨m0, hm0⟩ : ∃ m, min len1 10 = m := ⟨_, rfl⟩
  have m03 : m0 ≤ 10 := by omega
  rw [u8s_take, hm0] at HOB
  rw [hm0]
  obtain ⟨xb, hxb⟩ : ∃ x, zb.take 10 ++ [1] = x := ⟨_, rfl⟩
  have hwb : ∀ n ∈ xb, (Lit.int .u8 n).wf = true := by
    rw [← hxb]
    intro n hn
    rcases List.mem_append.1 hn with h | h
    · exact HWZ.out n (List.mem_of_mem_take h)
    · simp at h; subst h; decide
  have HWB := Lib.hid hwb
  clear hwb HWZ
  go_wp2_with (at_builtin; refine wp_app w1.heap.size rfl _ _ 23 5 (.int .u8 0) 1 1 rfl Try.underlying23 HI.out rfl (by omega) (by omega) rfl rfl (HOB.out.alloc _) (Sl.one w2 5 (.int .u8 1) rfl) (by omega) (Nat.le_trans s2 (by simp)) ?_; intro v3 w3 hown hfr hat; rw [show u8s (zb.take 10) ++ [Value.int .u8 1] = u8s (zb.take 10 ++ [1]) from by simp [u8s], hxb] at hown; obtain ⟨A2, c2, rfl⟩ := own_slice' hown)
  have HB3 := Lib.hid (Frm.below (HB2.out.alloc HB2.out.size _) hfr (Nat.le_trans HB2.out.size (by simp)) (fun j hj => Nat.le_trans s1 (HOB.out.lt j hj).1))
  have s3 : w1.heap.size ≤ w3.heap.size := Nat.le_trans s2 (Nat.le_trans (by simp) hfr.size)
  have HS3 := Lib.hid ((HS2.out.below ((Below.refl _ _).alloc (Nat.le_refl _) (.cells #[.int .u8 1] 5))).frm hfr (fun _ h => h.elim) (fun e => by have := (HOB.out.lt _ e).1; omega) (fun e => by have := (HOB.out.lt _ e).1; omega))
  obtain ⟨m, hm⟩ : ∃ m, m0 + 1 = m := ⟨_, rfl⟩
  rw [hm] at hown
  rw [hm]
  have m4 : m ≤ 11 := by omega
  have mpos : 0 < m := by omega
  have SB3 := Lib.hid (Sl.of_own hown (u8s_one _))
  have lb := sl_len SB3.out
  have LB := Lib.hid (fun j hj => hown.lt j hj)
  obtain ⟨bc, hbc⟩ : ∃ b, b = w3.heap.size := ⟨_, rfl⟩
  have bcg : g < bc := by omega
  have bcb : b < bc := by omega
  have bcw : w.heap.size ≤ bc := by omega
  have nb : Hid (∀ j, (Value.slice A2 m c2).ownBlock = some j → ¬ (j = g ∨ j = b)) := Lib.hid (fun j hj e => by have := LB.out j hj; omega)
  have nbc : Hid (∀ j, (Value.slice A2 m c2).ownBlock = some j → j < bc) := Lib.hid (fun j hj => by have := LB.out j hj; omega)
  have ngb : Hid (∀ j, j = g ∨ j = b → w.heap.size ≤ j) := Lib.hid (fun j hj => by omega)
  clear hown hfr hat HOB hm0 hm hxb HS2 HB2
  have HBC := Lib.hid hbc
  rw [← hbc]
  clear hbc
  go_loopw [7, 8, 9] (fun i _ _ wr => ∃ (k : Nat) (S : Nat → Prop) (N L : Nat) (cnt : Int → Nat), k ≤ 12 ∧ i = .int .i64 k ∧ N ≤ k ∧ L ≤ 11 * k ∧ (∀ j, S j → bc < j) ∧ Sto wr g b S N L (plainS (blF xb cnt)) ∧ MpV wr bc k (fun j => cntV (cnt j)) ∧ (∀ j, cnt j ≤ k) ∧ (∀ j, cnt j ≠ 0 → 1 ≤ j ∧ j ≤ 9) ∧ Sl wr 1 (.slice A2 m c2) m (u8s xb) ∧ Below w.heap.size w wr ∧ bc < wr.heap.size) (fun i _ _ _ => 12 - (intOf i).toNat)
  case atStart =>
    refine ⟨0, fun _ => False, 0, 0, fun _ => 0, by omega, rfl, by omega, by omega, fun _ h => h.elim, ?_, ?_, by simp, by simp, SB3.out.alloc _, HB3.out.alloc HB3.out.size _, by rw [HBC.out]; simp⟩
    · rw [bl_zero]
      exact HS3.out.below ((Below.refl _ _).alloc (Nat.le_refl _) _)
    · rw [HBC.out]
      exact MpV.made w3
  case round =>
    obtain ⟨k, S, N, L, cnt, hk, rfl, hN, hL, hS, hs, hm, hc1, hc2, hsl, hbl, hbz⟩ := hrel
    have HSa := Lib.hid hs.lt
    have HMa := Lib.hid hm
    have SBa := Lib.hid hsl
    have HBa := Lib.hid hbl
    have HC1 := Lib.hid hc1
    have HC2 := Lib.hid hc2
    have HSS := Lib.hid hS
    have sa : w.heap.size ≤ wr.heap.size := hbl.size
    clear hs hm hsl hbl hc1 hc2 hS HS3 SB3 HB3
    obtain ⟨W0, hW0⟩ : ∃ W, W = wr := ⟨_, rfl⟩
    subst hW0
    by_cases hkl : k < len0
    · have k1 : (k : Int) < (len0 : Int) := by omega
      by_cases hk12 : k < 12
      · have k2 : (k : Int) < 12 := by omega
        have k0 : (0 : Int) ≤ (k : Int) := by omega
        obtain ⟨ad, rfl, cz⟩ := (HZ.out.below HBa.out).at_ hkl
        have hzl := sl_leni HZ.out
        rw [i64s_getD _ _ (by omega)] at cz
        obtain ⟨z, hz⟩ : ∃ z, z = zn.getD k 0 := ⟨_, rfl⟩
        rw [← hz] at cz
        clear hz hzl
        go_wp2_with fail
        refine (within_any z 9 _ (by omega) (by omega)).mono ?_
        rintro e _ ⟨rfl, rfl⟩
        obtain ⟨n, hn⟩ : ∃ n, n = 1 + z % 9 := ⟨_, rfl⟩
        have n1 : 1 ≤ n := by have := Int.emod_nonneg z (b := 9) (by omega); omega
        have n9 : n ≤ 9 := by have := Int.emod_lt_of_pos z (b := 9) (by omega); omega
        have nw : (Lit.int .i64 n).wf = true := WalkArith.wf_i64 (by omega)
        have iwn : IntKind.i64.wrap (1 + z % 9) = n := by rw [← hn]; exact IntWalk.i64_in _ ⟨by omega, by omega⟩
        have iwk : IntKind.i64.wrap ((k : Int) + 1) = (k : Int) + 1 := IntWalk.i64_in _ ⟨by omega, by omega⟩
        clear hn cz
        go_wp2_with fail
        refine (copy_any _ _ _ _ SBa.out (by omega)).mono ?_
        rintro e w4 ⟨vx, rfl, hox, hb4⟩
        obtain ⟨gx, cx, rfl, hgx⟩ := own_form hox (by omega)
        have HX4 := Lib.hid hox
        have hgx4 := (hox.lt gx rfl).2
        have HS4 := Lib.hid (HSa.out.below hb4)
        have HM4 := Lib.hid (HMa.out.frm (Frm.of_below (S := fun _ => False) hb4) (fun h => h))
        have SB4 := Lib.hid (SBa.out.below hb4)
        have HB4 := Lib.hid (HBa.out.trans (hb4.mono sa))
        have s4 : W0.heap.size ≤ w4.heap.size := hb4.size
        clear hox hb4 HSa HMa SBa HBa
        go_wp2_with fail
        refine (app_any g b _ _ _ _ n _ HS4.out nw (some ⟨gx, 0, none⟩) m cx xb (Sl.of_own HX4.out (u8s_one _)) (by simp [maxLen]; omega) (by omega) (by omega) (fun j hj => by injection hj with hj; simp only at hj; omega) 0 _ (bl_app xb cnt n n1)).mono ?_
        rintro e w5 ⟨rfl, hs5, hf5⟩
        have HS5 := Lib.hid hs5
        have HX5 := Lib.hid (own_frm HX4.out hf5 (fun j hj e => by injection hj with hj; simp only at hj; omega))
        have HM5 := Lib.hid (HM4.out.frm hf5 (by omega))
        have SB5 := Lib.hid (SB4.out.frm hf5 nb.out)
        have HB5 := Lib.hid (Frm.below HB4.out hf5 HB4.out.size ngb.out)
        have s5 : w4.heap.size ≤ w5.heap.size := hf5.size
        clear hs5 hf5 HS4 HX4 HM4 SB4 HB4
        obtain ⟨x0, r0, hxb0⟩ : ∃ x r, xb = x :: r := by
          cases xb with
          | nil => simp at lb; omega
          | cons x r => exact ⟨x, r, rfl⟩
        have cx0 : w5.cell? ⟨gx, 0, none⟩ = some (.int .u8 x0) := by
          have := HX5.out.cellAt 0 (by omega)
          rw [this, hxb0]
          simp [u8s]
        have fx0 : w5.frozen? ⟨gx, 0, none⟩ = false := HX5.out.frozenAt 0
        have mp : (0 : Int) < (m : Int) := by omega
        have hf6 := (Frm.refl (· = gx) w5).setg (i := 0) (.int .u8 ((x0 + 1) % 256))
        have HM6 := Lib.hid (HM5.out.frm hf6 (by omega))
        have hcb := HC1.out n
        have q6 := HM6.out.lookc n nw
        obtain ⟨cn, hcn⟩ : ∃ c, cnt n = c := ⟨_, rfl⟩
        rw [hcn] at hcb
        simp only [hcn] at q6
        have iwc : IntKind.i64.wrap ((cn : Int) + 1) = (cn : Int) + 1 := IntWalk.i64_in _ ⟨by omega, by omega⟩
        obtain ⟨w7, hp7, hm7, hf7⟩ := HM6.out.putc (by simp [maxLen]; omega) n nw ((cn : Int) + 1) (by simp only [hcn])
        have HM7 := Lib.hid hm7
        have HS7 := Lib.hid ((HS5.out.frm hf6 (fun j hj e => by rcases hj with h | h <;> omega) (by omega) (by omega)).frm hf7 (fun j hj e => by
          rcases hj with h | h
          · have := HSS.out j h.1; omega
          · omega) (by omega) (by omega))
        have SB7 := Lib.hid ((SB5.out.frm hf6 (fun j hj e => by have := nbc.out j hj; omega)).frm hf7 (fun j hj e => by have := nbc.out j hj; omega))
        have HB7 := Lib.hid (Frm.below (HB5.out.setCell (p := ⟨gx, 0, none⟩) (by show w.heap.size ≤ gx; omega) (.int .u8 ((x0 + 1) % 256))) hf7 (Nat.le_trans HB5.out.size (by simp [World.setCell])) (fun j e => by omega))
        have s7 : bc < w7.heap.size := Nat.lt_of_lt_of_le (by omega : bc < w5.heap.size) (Nat.le_trans (by simp [World.setCell]) hf7.size)
        clear hm7 hf7 hf6 HS5 HX5 SB5 HB5 HM5 hcb
        go_wp2_with fail
        go_roundw
        case rel => exact ⟨k + 1, _, _, _, inc cnt n, by omega, by go_num, by omega, by omega, fun j hj => by
            rcases hj with h | h
            · exact HSS.out j h.1
            · omega, HS7.out, HM7.out, fun j => by
              have := HC1.out j
              unfold inc
              split <;> omega, fun j hj => by
              unfold inc at hj
              by_cases e : j = n
              · omega
              · rw [if_neg e] at hj
                exact HC2.out j hj, SB7.out, HB7.out, s7⟩
        case measure => simp [intOf]; omega
      · have k2 : ¬ (k : Int) < 12 := by omega
        go_wp2_with fail
        refine (blocks_any g b _ _ _ _ _ HSa.out (by omega)).mono ?_
        rintro e w4 ⟨vl, ss, rfl, hp, hm, hw, hlen, hrow, hb4⟩
        obtain ⟨Al, cl, rfl⟩ := own_slice' hrow
        have SL4 := Lib.hid (Sl.of_own hrow (i64s_one _))
        have LL4 := Lib.hid (fun j hj => (hrow.lt j hj))
        have HS4 := Lib.hid (HSa.out.below hb4).lt
        have HM4 := Lib.hid (HMa.out.frm (Frm.of_below (S := fun _ => False) hb4) (fun h => h))
        have SB4 := Lib.hid (SBa.out.below hb4)
        have HB4 := Lib.hid (HBa.out.trans (hb4.mono sa))
        have s4 : w.heap.size ≤ w4.heap.size := HB4.out.size
        have s4b : bc < w4.heap.size := Nat.lt_of_lt_of_le hbz hb4.size
        have hmem : ∀ j, j ∈ ss ↔ (cntV (cnt j)).isSome = true := fun j => by
          rw [hm j, cntV_some]
          show (blF xb cnt j).isSome = true ↔ _
          rw [bl_some]
        have hnd : ss.Nodup := hp.imp (fun h => Int.ne_of_lt h)
        have ql := HM4.out.lenc ss hnd hmem 3
        have HMEM := Lib.hid (fun j (hj : j ∈ ss) => by have := (hmem j).1 hj; rw [cntV_some] at this; simpa using this : ∀ j, j ∈ ss → cnt j ≠ 0)
        have HP := Lib.hid hp
        have hsl : ss.length ≤ 12 := by omega
        have HW := Lib.hid hw
        clear hrow hb4 hp hm hw hmem hnd HSa HMa SBa HBa
        go_wp2_with fail
        clear ql
        go_loopw [71, 11, 12, 13, 14, 15, 16] (fun i _ _ _ _ _ _ wr => ∃ q : Nat, q ≤ ss.length ∧ i = .int .i64 q ∧ Sto wr g b (fun j => (S j ∧ j < W0.heap.size) ∧ j < w4.heap.size) N L (plainS (blF xb cnt)) ∧ MpV wr bc k (fun j => cntV (cnt j)) ∧ Sl wr 1 (.slice A2 m c2) m (u8s xb) ∧ Sl wr 1 (.slice Al ss.length cl) ss.length (i64s ss) ∧ Below w.heap.size w wr ∧ w4.heap.size ≤ wr.heap.size) (fun i _ _ _ _ _ _ _ => ss.length - (intOf i).toNat)
        case atStart => exact ⟨0, by omega, rfl, HS4.out, HM4.out, SB4.out, SL4.out, HB4.out, Nat.le_refl _⟩
        case round =>
          obtain ⟨q, hq, rfl, hs, hm, hsb, hsl2, hbl, hsz⟩ := hrel
          have HSr := Lib.hid hs
          have HMr := Lib.hid hm
          have SBr := Lib.hid hsb
          have SLr := Lib.hid hsl2
          have HBr := Lib.hid hbl
          have sr : w.heap.size ≤ wr.heap.size := hbl.size
          clear hs hm hsb hsl2 hbl HS4 HM4 SB4 SL4 HB4
          by_cases hql : q < ss.length
          · have q1 : (q : Int) < (ss.length : Int) := by omega
            have q0 : (0 : Int) ≤ (q : Int) := by omega
            have iwq : IntKind.i64.wrap ((q : Int) + 1) = (q : Int) + 1 := IntWalk.i64_in _ ⟨by omega, by omega⟩
            obtain ⟨ad, rfl, cq⟩ := SLr.out.at_ hql
            rw [i64s_getD _ _ hql] at cq
            obtain ⟨p, hp⟩ : ∃ p, ss.getD q 0 = p := ⟨_, rfl⟩
            have hpm : p ∈ ss := by rw [← hp, List.getD_eq_getElem?_getD, List.getElem?_eq_getElem hql]; exact List.getElem_mem _
            have pw := HW.out p hpm
            have hcp := HMEM.out p hpm
            have hcp1 := HC1.out p
            rw [hp] at cq
            obtain ⟨cp, hcpe⟩ : ∃ c, cnt p = c := ⟨_, rfl⟩
            rw [hcpe] at hcp hcp1
            go_wp2_with fail
            refine (read_any g b _ _ _ _ p pw _ HSr.out (by omega)).mono ?_
            rintro e w5 ⟨vx, rfl, hox, hb5⟩
            rw [show (plainS (blF xb cnt)).f = blF xb cnt from rfl, bl_bk, hcpe, fu_len xb cp m lb] at hox
            rw [show (plainS (blF xb cnt)).f = blF xb cnt from rfl, bl_some, hcpe, show decide (cp ≠ 0) = true from by simpa using hcp]
            obtain ⟨XL, hXL⟩ : ∃ x, cp * m = x := ⟨_, rfl⟩
            obtain ⟨DM, hDMe⟩ : ∃ d, (cp - 1) * m = d := ⟨_, rfl⟩
            have hDM : XL = DM + m := by rw [← hXL, ← hDMe]; cases cp with | zero => exact absurd rfl hcp | succ c => simp [Nat.succ_mul]
            have hXLb : XL ≤ 132 := by rw [← hXL]; exact Nat.mul_le_mul (show cp ≤ 12 by omega) m4
            have iwm0 : (cp : Int) * (m : Int) = (XL : Int) := by rw [← Int.natCast_mul, hXL]
            have iwm : IntKind.i64.wrap (XL : Int) = (XL : Int) := IntWalk.i64_in _ ⟨by omega, by omega⟩
            have idm : (XL : Int) - (m : Int) = (DM : Int) := by omega
            have x0 : ¬ XL = 0 := by omega
            have d0 : (0 : Int) ≤ (DM : Int) := by omega
            have d1 : (DM : Int) ≤ (XL : Int) := by omega
            rw [hXL] at hox
            obtain ⟨gx, cx, rfl, hgx⟩ := own_form hox (by omega)
            have hgx5 := (hox.lt gx rfl).2
            have HX5 := Lib.hid hox
            have HS5 := Lib.hid (HSr.out.below hb5)
            have HM5 := Lib.hid (HMr.out.frm (Frm.of_below (S := fun _ => False) hb5) (fun h => h))
            have SB5 := Lib.hid (SBr.out.below hb5)
            have SL5 := Lib.hid (SLr.out.below hb5)
            have HB5 := Lib.hid (HBr.out.trans (hb5.mono sr))
            have s5 : wr.heap.size ≤ w5.heap.size := hb5.size
            have q5 := HM5.out.lookc p pw
            simp only [hcpe] at q5
            have hcx : XL ≤ cx := by
              obtain ⟨_, _, e, h1, _⟩ := Sl.of_own HX5.out (u8s_one _)
              injection e with _ _ e3
              subst e3
              exact h1
            have d2 : (DM : Int) ≤ (cx : Int) := by omega
            have d3 : (XL : Int) ≤ (cx : Int) := by omega
            have d4 : DM ≤ XL := by omega
            have d5 : (m : Int) ≤ (XL : Int) := by omega
            have hXLe : cp * m = XL := hXL
            have HDM := Lib.hid hDM
            clear hox hb5 HSr HMr SBr SLr HBr hXL
            have STl := Lib.hid (own_tail (d := DM) (m := m) (l1 := (List.replicate (cp - 1) xb).flatten) (l2 := xb) (by rw [← rep_end xb cp hcp]; exact HX5.out) (by rw [fu_len xb (cp - 1) m lb]; exact hDMe) lb HDM.out)
            have hxd : XL - DM = m := by omega
            clear hDM
            cases q with
            | zero =>
              go_wp2_with fail
              refine (sameb_any _ _ _ m xb STl.out SB5.out).mono ?_
              rintro e _ ⟨rfl, m1, rfl⟩
              obtain ⟨w6, hw6⟩ : ∃ W, W = w5.drewN m1 := ⟨_, rfl⟩
              have HS6 := Lib.hid (show Sto w6 g b _ _ _ _ from hw6 ▸ HS5.out.frm ((Frm.refl (fun _ => False) w5).drewN m1) (fun _ _ h => h) (fun h => h) (fun h => h))
              have HM6 := Lib.hid (show MpV w6 bc k _ from hw6 ▸ HM5.out.drewN m1)
              have SB6 := Lib.hid (show Sl w6 1 (.slice A2 m c2) m (u8s xb) from hw6 ▸ SB5.out.drewN m1)
              have SL6 := Lib.hid (show Sl w6 1 (.slice (some ad) ss.length cl) ss.length (i64s ss) from hw6 ▸ SL5.out.drewN m1)
              have HB6 := Lib.hid (show Below w.heap.size w w6 from hw6 ▸ HB5.out.drewN'' m1)
              have HX6 := Lib.hid (show w6.ownsRow wr.heap.size 5 1 (.slice (some ⟨gx, 0, none⟩) XL cx) XL (u8s (List.replicate cp xb).flatten) from hw6 ▸ HX5.out)
              have s6 : w5.heap.size ≤ w6.heap.size := by rw [hw6]; exact Nat.le_refl _
              rw [← hw6]
              clear hw6 HS5 HM5 SB5 SL5 HB5 HX5 STl q5
              obtain ⟨x1, r1, hxb1⟩ : ∃ x r, xb = x :: r := by
                cases xb with
                | nil => simp at lb; omega
                | cons x r => exact ⟨x, r, rfl⟩
              have hx1 := byte_range (HWB.out x1 (by rw [hxb1]; simp))
              have hr0 := HX6.out.cellAt 0 (by omega)
              rw [hxb1, rep_head x1 r1 cp hcp] at hr0
              have fx0 : w6.frozen? ⟨gx, 0, none⟩ = false := HX6.out.frozenAt 0
              have XLp : (0 : Int) < (XL : Int) := by omega
              have hf7 := Lib.hid ((Frm.refl (· = gx) w6).setg (i := 0) (.int .u8 ((x1 + 1) % 256)))
              obtain ⟨w7, hw7⟩ : ∃ W, W = w6.setCell ⟨gx, 0, none⟩ (.int .u8 ((x1 + 1) % 256)) := ⟨_, rfl⟩
              have HS7 := Lib.hid (show Sto w7 g b _ _ _ _ from hw7 ▸ HS6.out.frm hf7.out (fun j hj e => by omega) (by omega) (by omega))
              have HM7 := Lib.hid (show MpV w7 bc k _ from hw7 ▸ HM6.out.frm hf7.out (by omega))
              have SB7 := Lib.hid (show Sl w7 1 (.slice A2 m c2) m (u8s xb) from hw7 ▸ SB6.out.frm hf7.out (fun j hj e => by have := nbc.out j hj; omega))
              have SL7 := Lib.hid (show Sl w7 1 (.slice (some ad) ss.length cl) ss.length (i64s ss) from hw7 ▸ SL6.out.frm hf7.out (fun j hj e => by have := LL4.out j hj; omega))
              have HB7 := Lib.hid (show Below w.heap.size w w7 from hw7 ▸ HB6.out.setCell (p := ⟨gx, 0, none⟩) (by show w.heap.size ≤ gx; omega) _)
              have cx7 : w7.cell? ⟨gx, 0, none⟩ = some (.int .u8 ((x1 + 1) % 256)) := by
                have h1 := (HX6.out.stored 0 (.int .u8 ((x1 + 1) % 256))).1.cellAt 0 (by omega)
                rw [hw7, h1, List.getElem?_set_self (by rw [u8s_length, fu_len xb cp m lb]; omega)]
              have s7 : w6.heap.size ≤ w7.heap.size := by rw [hw7]; simp [World.setCell]
              clear HS6 HM6 SB6 SL6 HB6 HX6
              have W7 := Lib.hid hw7
              clear hw7
              go_wp2_with fail
              rw [← W7.out]
              refine (read_any g b _ _ _ _ p pw _ HS7.out (by omega)).mono ?_
              rintro e w8 ⟨vy, rfl, hoy, hb8⟩
              rw [show (plainS (blF xb cnt)).f = blF xb cnt from rfl, bl_bk, hcpe, fu_len xb cp m lb, hXLe] at hoy
              obtain ⟨gy, cy, rfl, hgy⟩ := own_form hoy (by omega)
              have cy8 := hoy.cellAt 0 (by omega)
              rw [hxb1, rep_head x1 r1 cp hcp] at cy8
              have cx8 := (hb8.cell (World.block_lt_of_cell? w7 _ cx7)).trans cx7
              have HS8 := Lib.hid (HS7.out.below hb8)
              have HM8 := Lib.hid (HM7.out.frm (Frm.of_below (S := fun _ => False) hb8) (fun h => h))
              have SB8 := Lib.hid (SB7.out.below hb8)
              have SL8 := Lib.hid (SL7.out.below hb8)
              have HB8 := Lib.hid (HB7.out.trans (hb8.mono HB7.out.size))
              have s8 : w7.heap.size ≤ w8.heap.size := hb8.size
              have hne : ¬ x1 = (x1 + 1) % 256 := by omega
              have hne2 : (x1 == (x1 + 1) % 256) = false := by simpa using hne
              have hne3 : decide (x1 = (x1 + 1) % 256) = false := by simpa using hne
              clear hoy hb8 HS7 HM7 SB7 SL7 HB7 cx7 hxb1
              go_wp2_with fail
              go_quiet (fail)
              go_wp2_with fail
              go_roundw
              case rel => exact ⟨0 + 1, by omega, by go_num, HS8.out.frm ((Frm.refl (fun _ => False) w8).drewN _) (fun _ _ h => h) (fun h => h) (fun h => h), HM8.out.drewN _, SB8.out.drewN _, SL8.out.drewN _, HB8.out.drewN'' _, Nat.le_trans hsz (Nat.le_trans s5 (Nat.le_trans s6 (Nat.le_trans s7 s8)))⟩
              case measure => simp [intOf]; omega
            | succ q' =>
              have iwp : IntKind.i64.wrap ((q' : Int) + 1 - 1) = (q' : Int) := by rw [Int.add_sub_cancel]; exact IntWalk.i64_in _ ⟨by omega, by omega⟩
              have hq' : q' < ss.length := by omega
              obtain ⟨p', hp'⟩ : ∃ p, ss.getD q' 0 = p := ⟨_, rfl⟩
              have hlt : p' < p := by
                rw [← hp, ← hp', List.getD_eq_getElem?_getD, List.getD_eq_getElem?_getD, List.getElem?_eq_getElem hql, List.getElem?_eq_getElem hq']
                exact List.pairwise_iff_getElem.1 HP.out q' (q' + 1) hq' hql (Nat.lt_succ_self _)
              have cq' : w5.cell? (ad.add q') = some (.int .i64 p') := by
                obtain ⟨ad', e, c⟩ := SL5.out.at_ hq'
                injection e with e
                subst e
                rw [i64s_getD _ _ hq', hp'] at c
                exact c
              have hnl : ¬ p ≤ p' := by omega
              have hnl2 : decide (p ≤ p') = false := by simpa using hlt
              have q2 : (q' : Int) < (ss.length : Int) := by omega
              have q3 : (0 : Int) < (q' : Int) + 1 := by omega
              clear hp hp' hlt
              go_wp2_with fail
              refine (sameb_any _ _ _ m xb STl.out SB5.out).mono ?_
              rintro e _ ⟨rfl, m1, rfl⟩
              obtain ⟨w6, hw6⟩ : ∃ W, W = w5.drewN m1 := ⟨_, rfl⟩
              have HS6 := Lib.hid (show Sto w6 g b _ _ _ _ from hw6 ▸ HS5.out.frm ((Frm.refl (fun _ => False) w5).drewN m1) (fun _ _ h => h) (fun h => h) (fun h => h))
              have HM6 := Lib.hid (show MpV w6 bc k _ from hw6 ▸ HM5.out.drewN m1)
              have SB6 := Lib.hid (show Sl w6 1 (.slice A2 m c2) m (u8s xb) from hw6 ▸ SB5.out.drewN m1)
              have SL6 := Lib.hid (show Sl w6 1 (.slice (some ad) ss.length cl) ss.length (i64s ss) from hw6 ▸ SL5.out.drewN m1)
              have HB6 := Lib.hid (show Below w.heap.size w w6 from hw6 ▸ HB5.out.drewN'' m1)
              have HX6 := Lib.hid (show w6.ownsRow wr.heap.size 5 1 (.slice (some ⟨gx, 0, none⟩) XL cx) XL (u8s (List.replicate cp xb).flatten) from hw6 ▸ HX5.out)
              have s6 : w5.heap.size ≤ w6.heap.size := by rw [hw6]; exact Nat.le_refl _
              rw [← hw6]
              clear hw6 HS5 HM5 SB5 SL5 HB5 HX5 STl q5
              obtain ⟨x1, r1, hxb1⟩ : ∃ x r, xb = x :: r := by
                cases xb with
                | nil => simp at lb; omega
                | cons x r => exact ⟨x, r, rfl⟩
              have hx1 := byte_range (HWB.out x1 (by rw [hxb1]; simp))
              have hr0 := HX6.out.cellAt 0 (by omega)
              rw [hxb1, rep_head x1 r1 cp hcp] at hr0
              have fx0 : w6.frozen? ⟨gx, 0, none⟩ = false := HX6.out.frozenAt 0
              have XLp : (0 : Int) < (XL : Int) := by omega
              have hf7 := Lib.hid ((Frm.refl (· = gx) w6).setg (i := 0) (.int .u8 ((x1 + 1) % 256)))
              obtain ⟨w7, hw7⟩ : ∃ W, W = w6.setCell ⟨gx, 0, none⟩ (.int .u8 ((x1 + 1) % 256)) := ⟨_, rfl⟩
              have HS7 := Lib.hid (show Sto w7 g b _ _ _ _ from hw7 ▸ HS6.out.frm hf7.out (fun j hj e => by omega) (by omega) (by omega))
              have HM7 := Lib.hid (show MpV w7 bc k _ from hw7 ▸ HM6.out.frm hf7.out (by omega))
              have SB7 := Lib.hid (show Sl w7 1 (.slice A2 m c2) m (u8s xb) from hw7 ▸ SB6.out.frm hf7.out (fun j hj e => by have := nbc.out j hj; omega))
              have SL7 := Lib.hid (show Sl w7 1 (.slice (some ad) ss.length cl) ss.length (i64s ss) from hw7 ▸ SL6.out.frm hf7.out (fun j hj e => by have := LL4.out j hj; omega))
              have HB7 := Lib.hid (show Below w.heap.size w w7 from hw7 ▸ HB6.out.setCell (p := ⟨gx, 0, none⟩) (by show w.heap.size ≤ gx; omega) _)
              have cx7 : w7.cell? ⟨gx, 0, none⟩ = some (.int .u8 ((x1 + 1) % 256)) := by
                have h1 := (HX6.out.stored 0 (.int .u8 ((x1 + 1) % 256))).1.cellAt 0 (by omega)
                rw [hw7, h1, List.getElem?_set_self (by rw [u8s_length, fu_len xb cp m lb]; omega)]
              have s7 : w6.heap.size ≤ w7.heap.size := by rw [hw7]; simp [World.setCell]
              clear HS6 HM6 SB6 SL6 HB6 HX6
              have W7 := Lib.hid hw7
              clear hw7
              go_wp2_with fail
              rw [← W7.out]
              refine (read_any g b _ _ _ _ p pw _ HS7.out (by omega)).mono ?_
              rintro e w8 ⟨vy, rfl, hoy, hb8⟩
              rw [show (plainS (blF xb cnt)).f = blF xb cnt from rfl, bl_bk, hcpe, fu_len xb cp m lb, hXLe] at hoy
              obtain ⟨gy, cy, rfl, hgy⟩ := own_form hoy (by omega)
              have cy8 := hoy.cellAt 0 (by omega)
              rw [hxb1, rep_head x1 r1 cp hcp] at cy8
              have cx8 := (hb8.cell (World.block_lt_of_cell? w7 _ cx7)).trans cx7
              have HS8 := Lib.hid (HS7.out.below hb8)
              have HM8 := Lib.hid (HM7.out.frm (Frm.of_below (S := fun _ => False) hb8) (fun h => h))
              have SB8 := Lib.hid (SB7.out.below hb8)
              have SL8 := Lib.hid (SL7.out.below hb8)
              have HB8 := Lib.hid (HB7.out.trans (hb8.mono HB7.out.size))
              have s8 : w7.heap.size ≤ w8.heap.size := hb8.size
              have hne : ¬ x1 = (x1 + 1) % 256 := by omega
              have hne2 : (x1 == (x1 + 1) % 256) = false := by simpa using hne
              have hne3 : decide (x1 = (x1 + 1) % 256) = false := by simpa using hne
              clear hoy hb8 HS7 HM7 SB7 SL7 HB7 cx7 hxb1
              go_wp2_with fail
              go_quiet (fail)
              go_wp2_with fail
              go_roundw
              case rel => exact ⟨(q' + 1) + 1, by omega, by go_num, HS8.out.frm ((Frm.refl (fun _ => False) w8).drewN _) (fun _ _ h => h) (fun h => h) (fun h => h), HM8.out.drewN _, SB8.out.drewN _, SL8.out.drewN _, HB8.out.drewN'' _, Nat.le_trans hsz (Nat.le_trans s5 (Nat.le_trans s6 (Nat.le_trans s7 s8)))⟩
              case measure => simp [intOf]; omega
          · have q1 : ¬ (q : Int) < (ss.length : Int) := by omega
            go_wp2_with fail
            refine (clones_any g b _ _ _ _ _ HSr.out).mono ?_
            rintro e w5 ⟨g', b', rfl, hg', hb', hs', hb5⟩
            have HC5 := Lib.hid hs'
            have HS5 := Lib.hid (HSr.out.below hb5)
            have SB5 := Lib.hid (SBr.out.below hb5)
            have HB5 := Lib.hid (HBr.out.trans (hb5.mono sr))
            have hgr := HSr.out.glt
            have hbr := HSr.out.blt
            have s5 : w.heap.size ≤ w5.heap.size := HB5.out.size
            clear hs' hb5 HSr HMr SBr SLr HBr
            go_wp2_with fail
            refine (app_any g' b' _ _ _ _ 77 _ HC5.out (by decide) A2 m c2 xb SB5.out (by simp [maxLen]; omega) (by omega) (by omega) (fun j hj e => by have := nbc.out j hj; omega) 0 _ (bl_app xb cnt 77 (by omega))).mono ?_
            rintro e w6 ⟨rfl, _, hf6⟩
            have HS6 := Lib.hid (HS5.out.frm hf6 (fun j hj e => by omega) (by omega) (by omega))
            have HB6 := Lib.hid (Frm.below HB5.out hf6 s5 (fun j hj => by omega))
            have s6 : w.heap.size ≤ w6.heap.size := HB6.out.size
            clear hf6 HC5 HS5 SB5 HB5
            have z77 : cnt 77 = 0 := by
              rcases Nat.eq_zero_or_pos (cnt 77) with h | h
              · exact h
              · have := HC2.out 77 (by omega); omega
            have z0' : cnt 0 = 0 := by
              rcases Nat.eq_zero_or_pos (cnt 0) with h | h
              · exact h
              · have := HC2.out 0 (by omega); omega
            have z78 : cnt 78 = 0 := by
              rcases Nat.eq_zero_or_pos (cnt 78) with h | h
              · exact h
              · have := HC2.out 78 (by omega); omega
            have t78 : thereS (plainS (blF xb cnt)) 78 = 3 := by
              have h1 : (plainS (blF xb cnt)).f 78 = none := by show blF xb cnt 78 = none; unfold blF; rw [z78]; rfl
              unfold thereS
              rw [if_pos (may_plain _ 78 (by omega)), h1]
              rfl
            have tm1 : thereS (plainS (blF xb cnt)) (-1) = 1 := by
              have h1 : mayS (plainS (blF xb cnt)) (-1) = 1 := by simp [mayS, plainS]
              unfold thereS
              rw [h1]
              rfl
            have T78 := Lib.hid t78
            have TM1 := Lib.hid tm1
            have Z77 := Lib.hid z77
            have Z0 := Lib.hid z0'
            clear t78 tm1 z77 z0' z78
            go_wp2_with fail
            refine (read_any g b _ _ _ _ 77 (by decide) _ HS6.out (by omega)).mono ?_
            rintro e w7 ⟨v7, rfl, _, hb7⟩
            rw [show (plainS (blF xb cnt)).f = blF xb cnt from rfl, bl_some, Z77.out, show decide ((0 : Nat) ≠ 0) = false from by decide]
            have HS7 := Lib.hid (HS6.out.below hb7)
            have HB7 := Lib.hid (HB6.out.trans (hb7.mono s6))
            have s7 : w.heap.size ≤ w7.heap.size := HB7.out.size
            clear hb7 HS6 HB6
            go_wp2_with fail
            refine (read_any g b _ _ _ _ 0 (by decide) _ HS7.out (by omega)).mono ?_
            rintro e w8 ⟨v8, rfl, _, hb8⟩
            rw [show (plainS (blF xb cnt)).f = blF xb cnt from rfl, bl_some, Z0.out, show decide ((0 : Nat) ≠ 0) = false from by decide]
            have HS8 := Lib.hid (HS7.out.below hb8)
            have HB8 := Lib.hid (HB7.out.trans (hb8.mono s7))
            have s8 : w.heap.size ≤ w8.heap.size := HB8.out.size
            clear hb8 HS7 HB7
            go_wp2_with fail
            refine (cut_any g b _ _ _ _ 78 0 _ HS8.out (by decide) (by simp [maxLen]; omega) (by omega) 3 _ (by unfold cutS; rw [T78.out]; rfl)).mono ?_
            rintro e w9 ⟨rfl, hs9, hf9⟩
            have HS9 := Lib.hid hs9
            have HB9 := Lib.hid (Frm.below HB8.out hf9 s8 ngb.out)
            have s9 : w.heap.size ≤ w9.heap.size := HB9.out.size
            clear hs9 hf9 HS8 HB8
            go_wp2_with fail
            refine (sync_any g b _ _ _ _ 78 _ HS9.out (by decide) (by simp [maxLen]; omega) 3 _ (by unfold syncS; rw [T78.out]; rfl)).mono ?_
            rintro e wa ⟨rfl, hsa, hfa⟩
            have HSA := Lib.hid hsa
            have HBA := Lib.hid (Frm.below HB9.out hfa s9 ngb.out)
            have sA : w.heap.size ≤ wa.heap.size := HBA.out.size
            clear hsa hfa HS9 HB9
            go_wp2_with fail
            refine (drop_any g b _ _ _ _ 78 _ HSA.out (by decide) 3 _ (by unfold dropS; rw [T78.out]; rfl)).mono ?_
            rintro e wb ⟨rfl, hsb, hfb⟩
            have HSB := Lib.hid hsb
            have HBB2 := Lib.hid (Frm.below HBA.out hfb sA ngb.out)
            have sB : w.heap.size ≤ wb.heap.size := HBB2.out.size
            clear hsb hfb HSA HBA
            go_wp2_with fail
            refine (drop_any g b _ _ _ _ (-1) _ HSB.out (by decide) 1 _ (by unfold dropS; rw [TM1.out]; rfl)).mono ?_
            rintro e wc ⟨rfl, hsc, hfc⟩
            have HBC2 := Lib.hid (Frm.below HBB2.out hfc sB ngb.out)
            have sC : w.heap.size ≤ wc.heap.size := HBC2.out.size
            clear hsc hfc HSB HBB2
            go_wp2_with fail
            refine (wakes_any _).mono ?_
            rintro e wd ⟨rfl, hbd⟩
            have HBD := Lib.hid (HBC2.out.trans (hbd.mono sC))
            clear hbd
            go_wp2_with fail
            go_ret
            exact ⟨rfl, HBD.out⟩
    · have k1 : ¬ (k : Int) < (len0 : Int) := by omega
      go_wp2_with fail
      refine (blocks_any g b _ _ _ _ _ HSa.out (by omega)).mono ?_
      rintro e w4 ⟨vl, ss, rfl, hp, hm, hw, hlen, hrow, hb4⟩
      obtain ⟨Al, cl, rfl⟩ := own_slice' hrow
      have SL4 := Lib.hid (Sl.of_own hrow (i64s_one _))
      have LL4 := Lib.hid (fun j hj => (hrow.lt j hj))
      have HS4 := Lib.hid (HSa.out.below hb4).lt
      have HM4 := Lib.hid (HMa.out.frm (Frm.of_below (S := fun _ => False) hb4) (fun h => h))
      have SB4 := Lib.hid (SBa.out.below hb4)
      have HB4 := Lib.hid (HBa.out.trans (hb4.mono sa))
      have s4 : w.heap.size ≤ w4.heap.size := HB4.out.size
      have s4b : bc < w4.heap.size := Nat.lt_of_lt_of_le hbz hb4.size
      have hmem : ∀ j, j ∈ ss ↔ (cntV (cnt j)).isSome = true := fun j => by
        rw [hm j, cntV_some]
        show (blF xb cnt j).isSome = true ↔ _
        rw [bl_some]
      have hnd : ss.Nodup := hp.imp (fun h => Int.ne_of_lt h)
      have ql := HM4.out.lenc ss hnd hmem 3
      have HMEM := Lib.hid (fun j (hj : j ∈ ss) => by have := (hmem j).1 hj; rw [cntV_some] at this; simpa using this : ∀ j, j ∈ ss → cnt j ≠ 0)
      have HP := Lib.hid hp
      have hsl : ss.length ≤ 12 := by omega
      have HW := Lib.hid hw
      clear hrow hb4 hp hm hw hmem hnd HSa HMa SBa HBa
      go_wp2_with fail
      clear ql
      go_loopw [71, 11, 12, 13, 14, 15, 16] (fun i _ _ _ _ _ _ wr => ∃ q : Nat, q ≤ ss.length ∧ i = .int .i64 q ∧ Sto wr g b (fun j => (S j ∧ j < W0.heap.size) ∧ j < w4.heap.size) N L (plainS (blF xb cnt)) ∧ MpV wr bc k (fun j => cntV (cnt j)) ∧ Sl wr 1 (.slice A2 m c2) m (u8s xb) ∧ Sl wr 1 (.slice Al ss.length cl) ss.length (i64s ss) ∧ Below w.heap.size w wr ∧ w4.heap.size ≤ wr.heap.size) (fun i _ _ _ _ _ _ _ => ss.length - (intOf i).toNat)
      case atStart => exact ⟨0, by omega, rfl, HS4.out, HM4.out, SB4.out, SL4.out, HB4.out, Nat.le_refl _⟩
      case round =>
        obtain ⟨q, hq, rfl, hs, hm, hsb, hsl2, hbl, hsz⟩ := hrel
        have HSr := Lib.hid hs
        have HMr := Lib.hid hm
        have SBr := Lib.hid hsb
        have SLr := Lib.hid hsl2
        have HBr := Lib.hid hbl
        have sr : w.heap.size ≤ wr.heap.size := hbl.size
        clear hs hm hsb hsl2 hbl HS4 HM4 SB4 SL4 HB4
        by_cases hql : q < ss.length
        · have q1 : (q : Int) < (ss.length : Int) := by omega
          have q0 : (0 : Int) ≤ (q : Int) := by omega
          have iwq : IntKind.i64.wrap ((q : Int) + 1) = (q : Int) + 1 := IntWalk.i64_in _ ⟨by omega, by omega⟩
          obtain ⟨ad, rfl, cq⟩ := SLr.out.at_ hql
          rw [i64s_getD _ _ hql] at cq
          obtain ⟨p, hp⟩ : ∃ p, ss.getD q 0 = p := ⟨_, rfl⟩
          have hpm : p ∈ ss := by rw [← hp, List.getD_eq_getElem?_getD, List.getElem?_eq_getElem hql]; exact List.getElem_mem _
          have pw := HW.out p hpm
          have hcp := HMEM.out p hpm
          have hcp1 := HC1.out p
          rw [hp] at cq
          obtain ⟨cp, hcpe⟩ : ∃ c, cnt p = c := ⟨_, rfl⟩
          rw [hcpe] at hcp hcp1
          go_wp2_with fail
          refine (read_any g b _ _ _ _ p pw _ HSr.out (by omega)).mono ?_
          rintro e w5 ⟨vx, rfl, hox, hb5⟩
          rw [show (plainS (blF xb cnt)).f = blF xb cnt from rfl, bl_bk, hcpe, fu_len xb cp m lb] at hox
          rw [show (plainS (blF xb cnt)).f = blF xb cnt from rfl, bl_some, hcpe, show decide (cp ≠ 0) = true from by simpa using hcp]
          obtain ⟨XL, hXL⟩ : ∃ x, cp * m = x := ⟨_, rfl⟩
          obtain ⟨DM, hDMe⟩ : ∃ d, (cp - 1) * m = d := ⟨_, rfl⟩
          have hDM : XL = DM + m := by rw [← hXL, ← hDMe]; cases cp with | zero => exact absurd rfl hcp | succ c => simp [Nat.succ_mul]
          have hXLb : XL ≤ 132 := by rw [← hXL]; exact Nat.mul_le_mul (show cp ≤ 12 by omega) m4
          have iwm0 : (cp : Int) * (m : Int) = (XL : Int) := by rw [← Int.natCast_mul, hXL]
          have iwm : IntKind.i64.wrap (XL : Int) = (XL : Int) := IntWalk.i64_in _ ⟨by omega, by omega⟩
          have idm : (XL : Int) - (m : Int) = (DM : Int) := by omega
          have x0 : ¬ XL = 0 := by omega
          have d0 : (0 : Int) ≤ (DM : Int) := by omega
          have d1 : (DM : Int) ≤ (XL : Int) := by omega
          rw [hXL] at hox
          obtain ⟨gx, cx, rfl, hgx⟩ := own_form hox (by omega)
          have hgx5 := (hox.lt gx rfl).2
          have HX5 := Lib.hid hox
          have HS5 := Lib.hid (HSr.out.below hb5)
          have HM5 := Lib.hid (HMr.out.frm (Frm.of_below (S := fun _ => False) hb5) (fun h => h))
          have SB5 := Lib.hid (SBr.out.below hb5)
          have SL5 := Lib.hid (SLr.out.below hb5)
          have HB5 := Lib.hid (HBr.out.trans (hb5.mono sr))
          have s5 : wr.heap.size ≤ w5.heap.size := hb5.size
          have q5 := HM5.out.lookc p pw
          simp only [hcpe] at q5
          have hcx : XL ≤ cx := by
            obtain ⟨_, _, e, h1, _⟩ := Sl.of_own HX5.out (u8s_one _)
            injection e with _ _ e3
            subst e3
            exact h1
          have d2 : (DM : Int) ≤ (cx : Int) := by omega
          have d3 : (XL : Int) ≤ (cx : Int) := by omega
          have d4 : DM ≤ XL := by omega
          have d5 : (m : Int) ≤ (XL : Int) := by omega
          have hXLe : cp * m = XL := hXL
          have HDM := Lib.hid hDM
          clear hox hb5 HSr HMr SBr SLr HBr hXL
          have STl := Lib.hid (own_tail (d := DM) (m := m) (l1 := (List.replicate (cp - 1) xb).flatten) (l2 := xb) (by rw [← rep_end xb cp hcp]; exact HX5.out) (by rw [fu_len xb (cp - 1) m lb]; exact hDMe) lb HDM.out)
          have hxd : XL - DM = m := by omega
          clear hDM
          cases q with
          | zero =>
            go_wp2_with fail
            refine (sameb_any _ _ _ m xb STl.out SB5.out).mono ?_
            rintro e _ ⟨rfl, m1, rfl⟩
            obtain ⟨w6, hw6⟩ : ∃ W, W = w5.drewN m1 := ⟨_, rfl⟩
            have HS6 := Lib.hid (show Sto w6 g b _ _ _ _ from hw6 ▸ HS5.out.frm ((Frm.refl (fun _ => False) w5).drewN m1) (fun _ _ h => h) (fun h => h) (fun h => h))
            have HM6 := Lib.hid (show MpV w6 bc k _ from hw6 ▸ HM5.out.drewN m1)
            have SB6 := Lib.hid (show Sl w6 1 (.slice A2 m c2) m (u8s xb) from hw6 ▸ SB5.out.drewN m1)
            have SL6 := Lib.hid (show Sl w6 1 (.slice (some ad) ss.length cl) ss.length (i64s ss) from hw6 ▸ SL5.out.drewN m1)
            have HB6 := Lib.hid (show Below w.heap.size w w6 from hw6 ▸ HB5.out.drewN'' m1)
            have HX6 := Lib.hid (show w6.ownsRow wr.heap.size 5 1 (.slice (some ⟨gx, 0, none⟩) XL cx) XL (u8s (List.replicate cp xb).flatten) from hw6 ▸ HX5.out)
            have s6 : w5.heap.size ≤ w6.heap.size := by rw [hw6]; exact Nat.le_refl _
            rw [← hw6]
            clear hw6 HS5 HM5 SB5 SL5 HB5 HX5 STl q5
            obtain ⟨x1, r1, hxb1⟩ : ∃ x r, xb = x :: r := by
              cases xb with
              | nil => simp at lb; omega
              | cons x r => exact ⟨x, r, rfl⟩
            have hx1 := byte_range (HWB.out x1 (by rw [hxb1]; simp))
            have hr0 := HX6.out.cellAt 0 (by omega)
            rw [hxb1, rep_head x1 r1 cp hcp] at hr0
            have fx0 : w6.frozen? ⟨gx, 0, none⟩ = false := HX6.out.frozenAt 0
            have XLp : (0 : Int) < (XL : Int) := by omega
            have hf7 := Lib.hid ((Frm.refl (· = gx) w6).setg (i := 0) (.int .u8 ((x1 + 1) % 256)))
            obtain ⟨w7, hw7⟩ : ∃ W, W = w6.setCell ⟨gx, 0, none⟩ (.int .u8 ((x1 + 1) % 256)) := ⟨_, rfl⟩
            have HS7 := Lib.hid (show Sto w7 g b _ _ _ _ from hw7 ▸ HS6.out.frm hf7.out (fun j hj e => by omega) (by omega) (by omega))
            have HM7 := Lib.hid (show MpV w7 bc k _ from hw7 ▸ HM6.out.frm hf7.out (by omega))
            have SB7 := Lib.hid (show Sl w7 1 (.slice A2 m c2) m (u8s xb) from hw7 ▸ SB6.out.frm hf7.out (fun j hj e => by have := nbc.out j hj; omega))
            have SL7 := Lib.hid (show Sl w7 1 (.slice (some ad) ss.length cl) ss.length (i64s ss) from hw7 ▸ SL6.out.frm hf7.out (fun j hj e => by have := LL4.out j hj; omega))
            have HB7 := Lib.hid (show Below w.heap.size w w7 from hw7 ▸ HB6.out.setCell (p := ⟨gx, 0, none⟩) (by show w.heap.size ≤ gx; omega) _)
            have cx7 : w7.cell? ⟨gx, 0, none⟩ = some (.int .u8 ((x1 + 1) % 256)) := by
              have h1 := (HX6.out.stored 0 (.int .u8 ((x1 + 1) % 256))).1.cellAt 0 (by omega)
              rw [hw7, h1, List.getElem?_set_self (by rw [u8s_length, fu_len xb cp m lb]; omega)]
            have s7 : w6.heap.size ≤ w7.heap.size := by rw [hw7]; simp [World.setCell]
            clear HS6 HM6 SB6 SL6 HB6 HX6
            have W7 := Lib.hid hw7
            clear hw7
            go_wp2_with fail
            rw [← W7.out]
            refine (read_any g b _ _ _ _ p pw _ HS7.out (by omega)).mono ?_
            rintro e w8 ⟨vy, rfl, hoy, hb8⟩
            rw [show (plainS (blF xb cnt)).f = blF xb cnt from rfl, bl_bk, hcpe, fu_len xb cp m lb, hXLe] at hoy
            obtain ⟨gy, cy, rfl, hgy⟩ := own_form hoy (by omega)
            have cy8 := hoy.cellAt 0 (by omega)
            rw [hxb1, rep_head x1 r1 cp hcp] at cy8
            have cx8 := (hb8.cell (World.block_lt_of_cell? w7 _ cx7)).trans cx7
            have HS8 := Lib.hid (HS7.out.below hb8)
            have HM8 := Lib.hid (HM7.out.frm (Frm.of_below (S := fun _ => False) hb8) (fun h => h))
            have SB8 := Lib.hid (SB7.out.below hb8)
            have SL8 := Lib.hid (SL7.out.below hb8)
            have HB8 := Lib.hid (HB7.out.trans (hb8.mono HB7.out.size))
            have s8 : w7.heap.size ≤ w8.heap.size := hb8.size
            have hne : ¬ x1 = (x1 + 1) % 256 := by omega
            have hne2 : (x1 == (x1 + 1) % 256) = false := by simpa using hne
            have hne3 : decide (x1 = (x1 + 1) % 256) = false := by simpa using hne
            clear hoy hb8 HS7 HM7 SB7 SL7 HB7 cx7 hxb1
            go_wp2_with fail
            go_quiet (fail)
            go_wp2_with fail
            go_roundw
            case rel => exact ⟨0 + 1, by omega, by go_num, HS8.out.frm ((Frm.refl (fun _ => False) w8).drewN _) (fun _ _ h => h) (fun h => h) (fun h => h), HM8.out.drewN _, SB8.out.drewN _, SL8.out.drewN _, HB8.out.drewN'' _, Nat.le_trans hsz (Nat.le_trans s5 (Nat.le_trans s6 (Nat.le_trans s7 s8)))⟩
            case measure => simp [intOf]; omega
          | succ q' =>
            have iwp : IntKind.i64.wrap ((q' : Int) + 1 - 1) = (q' : Int) := by rw [Int.add_sub_cancel]; exact IntWalk.i64_in _ ⟨by omega, by omega⟩
            have hq' : q' < ss.length := by omega
            obtain ⟨p', hp'⟩ : ∃ p, ss.getD q' 0 = p := ⟨_, rfl⟩
            have hlt : p' < p := by
              rw [← hp, ← hp', List.getD_eq_getElem?_getD, List.getD_eq_getElem?_getD, List.getElem?_eq_getElem hql, List.getElem?_eq_getElem hq']
              exact List.pairwise_iff_getElem.1 HP.out q' (q' + 1) hq' hql (Nat.lt_succ_self _)
            have cq' : w5.cell? (ad.add q') = some (.int .i64 p') := by
              obtain ⟨ad', e, c⟩ := SL5.out.at_ hq'
              injection e with e
              subst e
              rw [i64s_getD _ _ hq', hp'] at c
              exact c
            have hnl : ¬ p ≤ p' := by omega
            have hnl2 : decide (p ≤ p') = false := by simpa using hlt
            have q2 : (q' : Int) < (ss.length : Int) := by omega
            have q3 : (0 : Int) < (q' : Int) + 1 := by omega
            clear hp hp' hlt
            go_wp2_with fail
            refine (sameb_any _ _ _ m xb STl.out SB5.out).mono ?_
            rintro e _ ⟨rfl, m1, rfl⟩
            obtain ⟨w6, hw6⟩ : ∃ W, W = w5.drewN m1 := ⟨_, rfl⟩
            have HS6 := Lib.hid (show Sto w6 g b _ _ _ _ from hw6 ▸ HS5.out.frm ((Frm.refl (fun _ => False) w5).drewN m1) (fun _ _ h => h) (fun h => h) (fun h => h))
            have HM6 := Lib.hid (show MpV w6 bc k _ from hw6 ▸ HM5.out.drewN m1)
            have SB6 := Lib.hid (show Sl w6 1 (.slice A2 m c2) m (u8s xb) from hw6 ▸ SB5.out.drewN m1)
            have SL6 := Lib.hid (show Sl w6 1 (.slice (some ad) ss.length cl) ss.length (i64s ss) from hw6 ▸ SL5.out.drewN m1)
            have HB6 := Lib.hid (show Below w.heap.size w w6 from hw6 ▸ HB5.out.drewN'' m1)
            have HX6 := Lib.hid (show w6.ownsRow wr.heap.size 5 1 (.slice (some ⟨gx, 0, none⟩) XL cx) XL (u8s (List.replicate cp xb).flatten) from hw6 ▸ HX5.out)
            have s6 : w5.heap.size ≤ w6.heap.size := by rw [hw6]; exact Nat.le_refl _
            rw [← hw6]
            clear hw6 HS5 HM5 SB5 SL5 HB5 HX5 STl q5
            obtain ⟨x1, r1, hxb1⟩ : ∃ x r, xb = x :: r := by
              cases xb with
              | nil => simp at lb; omega
              | cons x r => exact ⟨x, r, rfl⟩
            have hx1 := byte_range (HWB.out x1 (by rw [hxb1]; simp))
            have hr0 := HX6.out.cellAt 0 (by omega)
            rw [hxb1, rep_head x1 r1 cp hcp] at hr0
            have fx0 : w6.frozen? ⟨gx, 0, none⟩ = false := HX6.out.frozenAt 0
            have XLp : (0 : Int) < (XL : Int) := by omega
            have hf7 := Lib.hid ((Frm.refl (· = gx) w6).setg (i := 0) (.int .u8 ((x1 + 1) % 256)))
            obtain ⟨w7, hw7⟩ : ∃ W, W = w6.setCell ⟨gx, 0, none⟩ (.int .u8 ((x1 + 1) % 256)) := ⟨_, rfl⟩
            have HS7 := Lib.hid (show Sto w7 g b _ _ _ _ from hw7 ▸ HS6.out.frm hf7.out (fun j hj e => by omega) (by omega) (by omega))
            have HM7 := Lib.hid (show MpV w7 bc k _ from hw7 ▸ HM6.out.frm hf7.out (by omega))
            have SB7 := Lib.hid (show Sl w7 1 (.slice A2 m c2) m (u8s xb) from hw7 ▸ SB6.out.frm hf7.out (fun j hj e => by have := nbc.out j hj; omega))
            have SL7 := Lib.hid (show Sl w7 1 (.slice (some ad) ss.length cl) ss.length (i64s ss) from hw7 ▸ SL6.out.frm hf7.out (fun j hj e => by have := LL4.out j hj; omega))
            have HB7 := Lib.hid (show Below w.heap.size w w7 from hw7 ▸ HB6.out.setCell (p := ⟨gx, 0, none⟩) (by show w.heap.size ≤ gx; omega) _)
            have cx7 : w7.cell? ⟨gx, 0, none⟩ = some (.int .u8 ((x1 + 1) % 256)) := by
              have h1 := (HX6.out.stored 0 (.int .u8 ((x1 + 1) % 256))).1.cellAt 0 (by omega)
              rw [hw7, h1, List.getElem?_set_self (by rw [u8s_length, fu_len xb cp m lb]; omega)]
            have s7 : w6.heap.size ≤ w7.heap.size := by rw [hw7]; simp [World.setCell]
            clear HS6 HM6 SB6 SL6 HB6 HX6
            have W7 := Lib.hid hw7
            clear hw7
            go_wp2_with fail
            rw [← W7.out]
            refine (read_any g b _ _ _ _ p pw _ HS7.out (by omega)).mono ?_
            rintro e w8 ⟨vy, rfl, hoy, hb8⟩
            rw [show (plainS (blF xb cnt)).f = blF xb cnt from rfl, bl_bk, hcpe, fu_len xb cp m lb, hXLe] at hoy
            obtain ⟨gy, cy, rfl, hgy⟩ := own_form hoy (by omega)
            have cy8 := hoy.cellAt 0 (by omega)
            rw [hxb1, rep_head x1 r1 cp hcp] at cy8
            have cx8 := (hb8.cell (World.block_lt_of_cell? w7 _ cx7)).trans cx7
            have HS8 := Lib.hid (HS7.out.below hb8)
            have HM8 := Lib.hid (HM7.out.frm (Frm.of_below (S := fun _ => False) hb8) (fun h => h))
            have SB8 := Lib.hid (SB7.out.below hb8)
            have SL8 := Lib.hid (SL7.out.below hb8)
            have HB8 := Lib.hid (HB7.out.trans (hb8.mono HB7.out.size))
            have s8 : w7.heap.size ≤ w8.heap.size := hb8.size
            have hne : ¬ x1 = (x1 + 1) % 256 := by omega
            have hne2 : (x1 == (x1 + 1) % 256) = false := by simpa using hne
            have hne3 : decide (x1 = (x1 + 1) % 256) = false := by simpa using hne
            clear hoy hb8 HS7 HM7 SB7 SL7 HB7 cx7 hxb1
            go_wp2_with fail
            go_quiet (fail)
            go_wp2_with fail
            go_roundw
            case rel => exact ⟨(q' + 1) + 1, by omega, by go_num, HS8.out.frm ((Frm.refl (fun _ => False) w8).drewN _) (fun _ _ h => h) (fun h => h) (fun h => h), HM8.out.drewN _, SB8.out.drewN _, SL8.out.drewN _, HB8.out.drewN'' _, Nat.le_trans hsz (Nat.le_trans s5 (Nat.le_trans s6 (Nat.le_trans s7 s8)))⟩
            case measure => simp [intOf]; omega
        · have q1 : ¬ (q : Int) < (ss.length : Int) := by omega
          go_wp2_with fail
          refine (clones_any g b _ _ _ _ _ HSr.out).mono ?_
          rintro e w5 ⟨g', b', rfl, hg', hb', hs', hb5⟩
          have HC5 := Lib.hid hs'
          have HS5 := Lib.hid (HSr.out.below hb5)
          have SB5 := Lib.hid (SBr.out.below hb5)
          have HB5 := Lib.hid (HBr.out.trans (hb5.mono sr))
          have hgr := HSr.out.glt
          have hbr := HSr.out.blt
          have s5 : w.heap.size ≤ w5.heap.size := HB5.out.size
          clear hs' hb5 HSr HMr SBr SLr HBr
          go_wp2_with fail
          refine (app_any g' b' _ _ _ _ 77 _ HC5.out (by decide) A2 m c2 xb SB5.out (by simp [maxLen]; omega) (by omega) (by omega) (fun j hj e => by have := nbc.out j hj; omega) 0 _ (bl_app xb cnt 77 (by omega))).mono ?_
          rintro e w6 ⟨rfl, _, hf6⟩
          have HS6 := Lib.hid (HS5.out.frm hf6 (fun j hj e => by omega) (by omega) (by omega))
          have HB6 := Lib.hid (Frm.below HB5.out hf6 s5 (fun j hj => by omega))
          have s6 : w.heap.size ≤ w6.heap.size := HB6.out.size
          clear hf6 HC5 HS5 SB5 HB5
          have z77 : cnt 77 = 0 := by
            rcases Nat.eq_zero_or_pos (cnt 77) with h | h
            · exact h
            · have := HC2.out 77 (by omega); omega
          have z0' : cnt 0 = 0 := by
            rcases Nat.eq_zero_or_pos (cnt 0) with h | h
            · exact h
            · have := HC2.out 0 (by omega); omega
          have z78 : cnt 78 = 0 := by
            rcases Nat.eq_zero_or_pos (cnt 78) with h | h
            · exact h
            · have := HC2.out 78 (by omega); omega
          have t78 : thereS (plainS (blF xb cnt)) 78 = 3 := by
            have h1 : (plainS (blF xb cnt)).f 78 = none := by show blF xb cnt 78 = none; unfold blF; rw [z78]; rfl
            unfold thereS
            rw [if_pos (may_plain _ 78 (by omega)), h1]
            rfl
          have tm1 : thereS (plainS (blF xb cnt)) (-1) = 1 := by
            have h1 : mayS (plainS (blF xb cnt)) (-1) = 1 := by simp [mayS, plainS]
            unfold thereS
            rw [h1]
            rfl
          have T78 := Lib.hid t78
          have TM1 := Lib.hid tm1
          have Z77 := Lib.hid z77
          have Z0 := Lib.hid z0'
          clear t78 tm1 z77 z0' z78
          go_wp2_with fail
          refine (read_any g b _ _ _ _ 77 (by decide) _ HS6.out (by omega)).mono ?_
          rintro e w7 ⟨v7, rfl, _, hb7⟩
          rw [show (plainS (blF xb cnt)).f = blF xb cnt from rfl, bl_some, Z77.out, show decide ((0 : Nat) ≠ 0) = false from by decide]
          have HS7 := Lib.hid (HS6.out.below hb7)
          have HB7 := Lib.hid (HB6.out.trans (hb7.mono s6))
          have s7 : w.heap.size ≤ w7.heap.size := HB7.out.size
          clear hb7 HS6 HB6
          go_wp2_with fail
          refine (read_any g b _ _ _ _ 0 (by decide) _ HS7.out (by omega)).mono ?_
          rintro e w8 ⟨v8, rfl, _, hb8⟩
          rw [show (plainS (blF xb cnt)).f = blF xb cnt from rfl, bl_some, Z0.out, show decide ((0 : Nat) ≠ 0) = false from by decide]
          have HS8 := Lib.hid (HS7.out.below hb8)
          have HB8 := Lib.hid (HB7.out.trans (hb8.mono s7))
          have s8 : w.heap.size ≤ w8.heap.size := HB8.out.size
          clear hb8 HS7 HB7
          go_wp2_with fail
          refine (cut_any g b _ _ _ _ 78 0 _ HS8.out (by decide) (by simp [maxLen]; omega) (by omega) 3 _ (by unfold cutS; rw [T78.out]; rfl)).mono ?_
          rintro e w9 ⟨rfl, hs9, hf9⟩
          have HS9 := Lib.hid hs9
          have HB9 := Lib.hid (Frm.below HB8.out hf9 s8 ngb.out)
          have s9 : w.heap.size ≤ w9.heap.size := HB9.out.size
          clear hs9 hf9 HS8 HB8
          go_wp2_with fail
          refine (sync_any g b _ _ _ _ 78 _ HS9.out (by decide) (by simp [maxLen]; omega) 3 _ (by unfold syncS; rw [T78.out]; rfl)).mono ?_
          rintro e wa ⟨rfl, hsa, hfa⟩
          have HSA := Lib.hid hsa
          have HBA := Lib.hid (Frm.below HB9.out hfa s9 ngb.out)
          have sA : w.heap.size ≤ wa.heap.size := HBA.out.size
          clear hsa hfa HS9 HB9
          go_wp2_with fail
          refine (drop_any g b _ _ _ _ 78 _ HSA.out (by decide) 3 _ (by unfold dropS; rw [T78.out]; rfl)).mono ?_
          rintro e wb ⟨rfl, hsb, hfb⟩
          have HSB := Lib.hid hsb
          have HBB2 := Lib.hid (Frm.below HBA.out hfb sA ngb.out)
          have sB : w.heap.size ≤ wb.heap.size := HBB2.out.size
          clear hsb hfb HSA HBA
          go_wp2_with fail
          refine (drop_any g b _ _ _ _ (-1) _ HSB.out (by decide) 1 _ (by unfold dropS; rw [TM1.out]; rfl)).mono ?_
          rintro e wc ⟨rfl, hsc, hfc⟩
          have HBC2 := Lib.hid (Frm.below HBB2.out hfc sB ngb.out)
          have sC : w.heap.size ≤ wc.heap.size := HBC2.out.size
          clear hsc hfc HSB HBB2
          go_wp2_with fail
          refine (wakes_any _).mono ?_
          rintro e wd ⟨rfl, hbd⟩
          have HBD := Lib.hid (HBC2.out.trans (hbd.mono sC))
          clear hbd
          go_wp2_with fail
          go_ret
          exact ⟨rfl, HBD.out⟩

/-! ### THE ROW's STEP: WRITTEN OUT: LEAVE IT -/
set_option maxRecDepth 100000 in
theorem lifted (os : Os) (started : os.Started) (H : Type) (enc : TypeId × Value → H) :
    ReturnsInHanded {} Try.checked os 3 .any (Rows.storeBlocksSpec.pre6 enc Try.prog Try.f3 Rows.storeBlocksRow.domain false) (Rows.storeBlocksSpec.post enc Try.prog Try.f3 false true false false) := by
  refine returnsInHanded_of_change (C := Try.checked) own started (by kernel_rfl) Try.func3
    (ChangeSpec.witness6 (enc := enc) (C := Try.checked) false ⟨#[], #[.slice none 0 0, .slice none 0 0], []⟩ 8 (by kernel_rfl) (by kernel_rfl) (by kernel_rfl) (by kernel_rfl)) ?_
  intro W base args ds gs before hval0 hW hcnd _
  have hval : ∀ (j : Nat) t v, Try.f3.params[j]? = some t → args[j]? = some v → Value.okWide Try.prog W .any base t v := hval0
  have hW' := hW
  obtain ⟨p, q, hA0, hV, rfl, hfz, hnd⟩ := hW
  have hA : DataW.TrodAll enc Try.prog W 0 (fun _ => true) true Try.f3.params.toList args.toList ds p := hA0
  rw [Try.params3] at hA hval
  obtain ⟨v0, vs0, d0, ds0, p0, q0, hargs, rfl, rfl, h0, r0⟩ := trodAll_cons hA
  obtain ⟨v1, vs1, d1, ds1, p1, q1, rfl, rfl, rfl, h1, r1⟩ := trodAll_cons r0
  obtain ⟨rfl, rfl, rfl⟩ := trodAll_nil r1
  obtain rfl : args = #[v0, v1] := by cases args; simp_all
  obtain ⟨rfl, rfl⟩ := trodVars_none hV
  obtain ⟨a0, len0, cap0, rfl⟩ := okWide_slice Try.underlying22 (hval 0 22 v0 rfl rfl)
  have k0 := h0
  have lt0 : ∀ x ∈ p0, x.block < W.heap.size := by obtain ⟨m, hm⟩ := k0; exact DataW.trod_lt m _ _ _ hm
  obtain ⟨z0, w0⟩ : ∃ zs, IsRow .i64 W a0 len0 cap0 zs := by
    obtain ⟨fuel, hf⟩ := h0
    rcases open_ints Try.underlying22 Try.underlying3 (by kernel_rfl) hf with ⟨hcs, _⟩ | ⟨x, l, c, zs, hcs, _, hl, hm, hz, _, hcell, hwz⟩
    · simp [Value.cells] at hcs
      obtain ⟨rfl, rfl, rfl⟩ := hcs
      exact ⟨[], .inl ⟨rfl, rfl, rfl, rfl⟩⟩
    · simp [Value.cells] at hcs
      obtain ⟨rfl, rfl, rfl⟩ := hcs
      exact ⟨zs, .inr ⟨_, rfl, hl, hm, by simpa using hz, hcell, hwz⟩⟩
  obtain ⟨a1, len1, cap1, rfl⟩ := okWide_slice Try.underlying23 (hval 1 23 v1 rfl rfl)
  have k1 := h1
  have lt1 : ∀ x ∈ p1, x.block < W.heap.size := by obtain ⟨m, hm⟩ := k1; exact DataW.trod_lt m _ _ _ hm
  obtain ⟨z1, w1⟩ : ∃ zs, IsRow .u8 W a1 len1 cap1 zs := by
    obtain ⟨fuel, hf⟩ := h1
    rcases open_ints Try.underlying23 Try.underlying5 (by kernel_rfl) hf with ⟨hcs, _⟩ | ⟨x, l, c, zs, hcs, _, hl, hm, hz, _, hcell, hwz⟩
    · simp [Value.cells] at hcs
      obtain ⟨rfl, rfl, rfl⟩ := hcs
      exact ⟨[], .inl ⟨rfl, rfl, rfl, rfl⟩⟩
    · simp [Value.cells] at hcs
      obtain ⟨rfl, rfl, rfl⟩ := hcs
      exact ⟨zs, .inr ⟨_, rfl, hl, hm, by simpa using hz, hcell, hwz⟩⟩
  clear hA0 hval0
  refine (walk a0 len0 cap0 z0 a1 len1 cap1 z1 W w0 w1).mono fun e W' ⟨he, bel⟩ => ?_
  subst he
  exact ⟨_, rfl, _, _, _, [], _, [], hW', trodAll_mk1 (shut_bool Try.underlying4 _), (trodAll_cons_mk (Below.trod laidOut (by kernel_rfl) (of_decide_eq_true (by kernel_rfl)) k0 bel lt0) (trodAll_cons_mk (Below.trod laidOut (by kernel_rfl) (of_decide_eq_true (by kernel_rfl)) k1 bel lt1) trodAll_mk0)), rfl, bel.frame _, fun h => by cases h⟩

theorem over : Rows.storeBlocksRow.holds Try.pinned (OpenSpec.ofChange Rows.storeBlocksSpec) :=
  OpenClaim.holds_of_wide 3 Try.f3 rfl rfl rfl rfl rfl rfl rfl ⟨rfl, rfl, rfl, rfl, rfl⟩ rfl rfl rfl rfl rfl (by kernel_rfl) Try.func3 (by kernel_rfl)
    (of_decide_eq_true (by kernel_rfl)) (by unfold Func.isWrapper; first | (rw [if_pos (by decide +kernel)]; kernel_rfl) | (rw [if_neg (by decide +kernel)]; exact ⟨rfl, rfl⟩))
    (fun os started H enc _ => lifted os started H enc)

/-- ████ THE STATEMENT ████ -/
theorem proved : Rows.StoreBlocksSaid := over
#print axioms proved
end Go.Proofs.Ytfcagjnedaaadaa.storeBlocks
