/- Proved: StoreFuse returns true for every input, and leaves its arguments as they were; no further condition.
   The frame around the walk was written by the guide's proof-skeleton program. -/
import Derived.Test.YtfcagjnedaaadaaRows
import Derived.Test.YtfcagjnedaaadaaP3
import Derived.LoopN
import Derived.WalkKit
import Derived.ProofKit
import Derived.OpenShut
import Derived.ShutString
import Derived.ChangeOld
import Derived.Below
namespace Go.Proofs.Ytfcagjnedaaadaa.storeFuse
open Go.ChangeShapes Go.WideShapes Go.ChangeAt Go.RowKit
open Go.ChangeMaps (open_string shut_string)
set_option linter.unusedVariables false

theorem own : ownKnob Try.prog.godebug = none := by kernel_rfl
theorem laidOut : laidOutB Try.prog = true := by kernel_rfl

/-- WHAT THE WALK IS TOLD OF A SLICE OF INTEGERS THAT CAME IN: it is nil; or it leads to a row of 'cap' cells, the numbers 'zs' (the first 'len' are its elements, the rest its spare room), each fitting its kind. -/
def IsRow (k : IntKind) (w : World) (a : Option Addr) (len cap : Nat) (zs : List Int) : Prop :=
  (a = none ∧ len = 0 ∧ cap = 0 ∧ zs = []) ∨
  ∃ x, a = some x ∧ len ≤ cap ∧ cap ≤ maxLen ∧ zs.length = cap ∧ (∀ i, i < zs.length → w.cell? (x.add i) = some (.int k (zs.getD i 0))) ∧ ∀ n ∈ zs, (Lit.int k n).wf = true

/-! ### STEP 1: THE WALK: the Go text returns true, AND WRITES NOTHING THAT WAS THERE: 'Below w.heap.size w w'' (Derived/Below.lean: '.refl', '.alloc', '.drew', '.setCell' at a new block, '.trans'). Open each 'IsRow' by 'rcases' AHEAD of 'go_enter'; part every test ahead of the walk. -/
set_option maxHeartbeats 16000000 in
set_option maxRecDepth 100000 in
theorem walk (a0 : Int) (a1 : Option Addr) (len1 cap1 : Nat) (z1 : List Int) (w : World) (w0 : (Lit.int .i64 a0).wf = true) (w1 : IsRow .u8 w a1 len1 cap1 z1) :
    Calls Try.prog 7 #[.int .i64 a0, .slice a1 len1 cap1] w fun e w' => e = .returned (.bool true) ∧ Below w.heap.size w w' := by
  obtain ⟨zb, hzb, _⟩ := bytes_of_row w1
  have HB := Lib.hid hzb
  clear hzb w0 w1 z1
  have HI := Lib.hid Try.info5
  go_enter Try.func7, Try.ntmps7
  go_wp2_with fail
  refine (within_any a0 12 _ (by omega) (by omega)).mono ?_
  rintro e _ ⟨rfl, rfl⟩
  obtain ⟨n, hn⟩ : ∃ i : Nat, (i : Int) = a0 % 12 := ⟨(a0 % 12).toNat, Int.toNat_of_nonneg (Int.emod_nonneg _ (by omega))⟩
  have n12 : n < 12 := by omega
  rw [← hn]
  clear hn
  go_wp2_with fail
  refine (cutb_any _ _ _ _ 8 HB.out (by omega)).mono ?_
  rintro e w1 ⟨vb, rfl, hob, hb1⟩
  obtain ⟨Ab, cb, rfl⟩ := own_slice' hob
  have HOB := Lib.hid hob
  have HB1 := Lib.hid hb1
  have s1 : w.heap.size ≤ w1.heap.size := hb1.size
  clear hob hb1 HB
  obtain ⟨m0, hm0⟩ : ∃ m, min len1 8 = m := ⟨_, rfl⟩
  have m03 : m0 ≤ 8 := by omega
  rw [u8s_take, hm0] at HOB
  rw [hm0]
  obtain ⟨xb, hxb⟩ : ∃ x, zb.take 8 ++ [1] = x := ⟨_, rfl⟩
  go_wp2_with (at_builtin; refine wp_app w.heap.size rfl _ _ 23 5 (.int .u8 0) 1 1 rfl Try.underlying23 HI.out rfl (by omega) (by omega) rfl rfl (HOB.out.alloc _) (Sl.one w1 5 (.int .u8 1) rfl) (by omega) (Nat.le_trans s1 (by simp)) ?_; intro v2 w2 hown hfr hat; rw [show u8s (zb.take 8) ++ [Value.int .u8 1] = u8s (zb.take 8 ++ [1]) from by simp [u8s], hxb] at hown; obtain ⟨A2, c2, rfl⟩ := own_slice' hown)
  have HB2 := Lib.hid (Frm.below (HB1.out.alloc s1 _) hfr (Nat.le_trans s1 (by simp)) (fun j hj => (HOB.out.lt j hj).1))
  obtain ⟨m, hm⟩ : ∃ m, m0 + 1 = m := ⟨_, rfl⟩
  rw [hm] at hown
  rw [hm]
  have m4 : m ≤ 9 := by omega
  have mpos : 0 < m := by omega
  have SB2 := Lib.hid (Sl.of_own hown (u8s_one _))
  have lb := sl_len SB2.out
  have LB := Lib.hid (fun j hj => (hown.lt j hj).2)
  have s2 : w.heap.size ≤ w2.heap.size := HB2.out.size
  clear hown hfr hat HOB HB1 hm0 hm hxb
  go_wp2_with fail
  refine (new_any _).mono ?_
  rintro e w3 ⟨g, b, rfl, hg, hb, hs, hb3⟩
  have HS3 := Lib.hid hs
  have HB3 := Lib.hid (HB2.out.trans (hb3.mono s2))
  have SB3 := Lib.hid (SB2.out.below hb3)
  have s3 : w.heap.size ≤ w3.heap.size := HB3.out.size
  have hgw : w.heap.size ≤ g := Nat.le_trans s2 hg
  have hbw : w.heap.size ≤ b := Nat.le_trans s2 hb
  have nb : Hid (∀ j, (Value.slice A2 m c2).ownBlock = some j → j ≠ g) := Lib.hid (fun j hj e => by have := LB.out j hj; omega)
  have nb2 : Hid (∀ j, (Value.slice A2 m c2).ownBlock = some j → ¬ (j = g ∨ j = b)) := Lib.hid (fun j hj e => by have := LB.out j hj; omega)
  have ngb : Hid (∀ j, j = g ∨ j = b → w.heap.size ≤ j) := Lib.hid (fun j hj => by omega)
  clear hs hb3 HB2 SB2
  go_wp2_with fail
  refine (fuse_any g b _ _ _ _ (n : Int) (n : Int) (WalkArith.wf_i64 (by omega)) (by unfold mx; split <;> omega) _ HS3.out).mono ?_
  rintro e w4 ⟨rfl, hs, hf⟩
  have HS4 := Lib.hid (show Sto w4 g b _ _ _ (fuS xb 0 n false) from by rw [show fuS xb 0 n false = { plainS (fun _ => none) with lit := true, left := (n : Int) } from by unfold fuS fuF plainS; rw [if_pos rfl, one_none]]; exact hs)
  have SB4 := Lib.hid (SB3.out.frm hf (fun j hj e => nb2.out j hj (.inl e)))
  have HB4 := Lib.hid (Frm.below HB3.out hf s3 (fun j e => ngb.out j (.inl e)))
  have s4 : w.heap.size ≤ w4.heap.size := HB4.out.size
  clear hs hf HS3 SB3 HB3
  go_wp2_with fail
  go_loopw [6] (fun i wr => ∃ (k : Nat) (S : Nat → Prop) (N L : Nat), k ≤ n ∧ i = .int .i64 k ∧ N ≤ 3 * k ∧ L ≤ 20 * k ∧ Sto wr g b S N L (fuS xb k ((n : Int) - k) false) ∧ Sl wr 1 (.slice A2 m c2) m (u8s xb) ∧ Below w.heap.size w wr) (fun i _ => n - (intOf i).toNat)
  case atStart => exact ⟨0, _, 0, 0, by omega, rfl, by omega, by omega, by simpa using HS4.out, SB4.out, HB4.out⟩
  case round =>
    obtain ⟨k, S, N, L, hk, rfl, hN, hL, hs, hsl, hbl⟩ := hrel
    have HSa := Lib.hid hs
    have SBa := Lib.hid hsl
    have HBa := Lib.hid hbl
    have sa : w.heap.size ≤ wr.heap.size := hbl.size
    clear hs hsl hbl HS4 SB4 HB4
    by_cases hkn : k < n
    · have k1 : (k : Int) < (n : Int) := by omega
      have iwk : IntKind.i64.wrap ((k : Int) + 1) = (k : Int) + 1 := IntWalk.i64_in _ ⟨by omega, by omega⟩
      go_wp2_with fail
      refine (app_any g b _ _ _ _ 0 _ HSa.out (by decide) A2 m c2 xb SBa.out (by simp [maxLen]; omega) (by omega) (by omega) nb.out 1 _ (fu_app0 xb xb k _)).mono ?_
      rintro e wb ⟨rfl, hs, hf⟩
      have HSb := Lib.hid hs
      have SBb := Lib.hid (SBa.out.frm hf nb2.out)
      have HBb := Lib.hid (Frm.below HBa.out hf sa ngb.out)
      have sb : w.heap.size ≤ wb.heap.size := HBb.out.size
      clear hs hf HSa SBa HBa
      go_wp2_with fail
      refine (drop_any g b _ _ _ _ 7 _ HSb.out (by decide) 3 _ (fu_drop7 xb k _)).mono ?_
      rintro e wc ⟨rfl, hs, hf⟩
      have HSc := Lib.hid hs
      have SBc := Lib.hid (SBb.out.frm hf nb2.out)
      have HBc := Lib.hid (Frm.below HBb.out hf sb ngb.out)
      have sc : w.heap.size ≤ wc.heap.size := HBc.out.size
      clear hs hf HSb SBb HBb
      go_wp2_with fail
      refine (app_any g b _ _ _ _ 2 _ HSc.out (by decide) A2 m c2 xb SBc.out (by simp [maxLen]; omega) (by omega) (by omega) nb.out 0 _ (fu_app xb k _ ((n : Int) - ((k + 1 : Nat) : Int)) (by omega) (by omega))).mono ?_
      rintro e wd ⟨rfl, hs, hf⟩
      have HSd := Lib.hid hs
      have SBd := Lib.hid (SBc.out.frm hf nb2.out)
      have HBd := Lib.hid (Frm.below HBc.out hf sc ngb.out)
      have sd : w.heap.size ≤ wd.heap.size := HBd.out.size
      clear hs hf HSc SBc HBc
      go_wp2_with fail
      refine (dead_any g b _ _ _ _ _ HSd.out).mono ?_
      rintro e _ ⟨rfl, rfl⟩
      rw [show (fuS xb (k + 1) ((n : Int) - ((k + 1 : Nat) : Int)) false).dead = false from rfl]
      go_wp2_with fail
      go_roundw
      case rel => exact ⟨k + 1, _, _, _, by omega, by go_num, by omega, by omega, HSd.out, SBd.out, HBd.out⟩
      case measure => simp [intOf]; omega
    · obtain rfl : k = n := by omega
      have k1 : ¬ (k : Int) < (k : Int) := by omega
      rw [Int.sub_self] at HSa
      go_wp2_with fail
      refine (app_any g b _ _ _ _ 2 _ HSa.out (by decide) A2 m c2 xb SBa.out (by simp [maxLen]; omega) (by omega) (by omega) nb.out 6 _ (fu_blow xb k)).mono ?_
      rintro e wb ⟨rfl, hs, hf⟩
      have HSb := Lib.hid hs
      have SBb := Lib.hid (SBa.out.frm hf nb2.out)
      have HBb := Lib.hid (Frm.below HBa.out hf sa ngb.out)
      have sb : w.heap.size ≤ wb.heap.size := HBb.out.size
      clear hs hf HSa SBa HBa
      go_wp2_with fail
      refine (dead_any g b _ _ _ _ _ HSb.out).mono ?_
      rintro e _ ⟨rfl, rfl⟩
      rw [show (fuS xb k 0 true).dead = true from rfl]
      go_wp2_with fail
      refine (app_any g b _ _ _ _ 2 _ HSb.out (by decide) A2 m c2 xb SBb.out (by simp [maxLen]; omega) (by omega) (by omega) nb.out 6 _ (dead_app _ 2 xb rfl)).mono ?_
      rintro e wc ⟨rfl, hs, hf⟩
      have HSc := Lib.hid hs
      have SBc := Lib.hid (SBb.out.frm hf nb2.out)
      have HBc := Lib.hid (Frm.below HBb.out hf sb ngb.out)
      have sc : w.heap.size ≤ wc.heap.size := HBc.out.size
      clear hs hf HSb SBb HBb
      go_wp2_with fail
      refine (sync_any g b _ _ _ _ 2 _ HSc.out (by decide) (by simp [maxLen]; omega) 6 _ (dead_sync _ 2 rfl)).mono ?_
      rintro e wd ⟨rfl, hs, hf⟩
      have HSd := Lib.hid hs
      have SBd := Lib.hid (SBc.out.frm hf nb2.out)
      have HBd := Lib.hid (Frm.below HBc.out hf sc ngb.out)
      have sd : w.heap.size ≤ wd.heap.size := HBd.out.size
      clear hs hf HSc SBc HBc
      go_wp2_with fail
      refine (cut_any g b _ _ _ _ 2 0 _ HSd.out (by decide) (by simp [maxLen]; omega) (by omega) 6 _ (dead_cut _ 2 0 rfl)).mono ?_
      rintro e we ⟨rfl, hs, hf⟩
      have HSe := Lib.hid hs
      have SBe := Lib.hid (SBd.out.frm hf nb2.out)
      have HBe := Lib.hid (Frm.below HBd.out hf sd ngb.out)
      have se : w.heap.size ≤ we.heap.size := HBe.out.size
      clear hs hf HSd SBd HBd
      go_wp2_with fail
      refine (drop_any g b _ _ _ _ 2 _ HSe.out (by decide) 6 _ (dead_drop _ 2 rfl)).mono ?_
      rintro e wf ⟨rfl, hs, hf⟩
      have HSf := Lib.hid hs
      have SBf := Lib.hid (SBe.out.frm hf nb2.out)
      have HBf := Lib.hid (Frm.below HBe.out hf se ngb.out)
      have sf : w.heap.size ≤ wf.heap.size := HBf.out.size
      clear hs hf HSe SBe HBe
      go_wp2_with fail
      refine (app_any g b _ _ _ _ 0 _ HSf.out (by decide) A2 m c2 xb SBf.out (by simp [maxLen]; omega) (by omega) (by omega) nb.out 6 _ (dead_app _ 0 xb rfl)).mono ?_
      rintro e wg ⟨rfl, hs, hf⟩
      have HSg := Lib.hid hs
      have SBg := Lib.hid (SBf.out.frm hf nb2.out)
      have HBg := Lib.hid (Frm.below HBf.out hf sf ngb.out)
      have sg : w.heap.size ≤ wg.heap.size := HBg.out.size
      clear hs hf HSf SBf HBf
      go_wp2_with fail
      refine wp_loop_rounds 6 ?_
      rw [rounds_succ]
      go_wp2_with fail
      rw [rounds_succ]
      go_wp2_with fail
      rw [rounds_succ]
      go_wp2_with fail
      rw [rounds_succ]
      go_wp2_with fail
      rw [rounds_succ]
      go_wp2_with fail
      rw [rounds_succ]
      go_wp2_with fail
      obtain ⟨wh, hwh⟩ : ∃ W, W = wg.alloc (.cells #[.int .i64 6, .int .i64 6, .int .i64 6, .int .i64 6, .int .i64 6] 30) := ⟨_, rfl⟩
      have hbh : Below wg.heap.size wg wh := by rw [hwh]; exact (Below.refl _ _).alloc (Nat.le_refl _) _
      have HSh := Lib.hid (HSg.out.below hbh)
      have SBh := Lib.hid (SBg.out.below hbh)
      have HBh := Lib.hid (HBg.out.trans (hbh.mono sg))
      have sh : w.heap.size ≤ wh.heap.size := HBh.out.size
      rw [← hwh]
      clear hwh hbh HSg SBg HBg
      have hkm : k * m ≤ 99 := Nat.mul_le_mul (show k ≤ 11 by omega) m4
      obtain ⟨Y, hY, hY1, hY2⟩ := fu_crash xb k m lb mpos (by omega)
      refine (crash_any g b _ _ _ _ 1000 _ HSh.out (by omega) (by simp [maxLen]; omega)).mono ?_
      rintro e wi ⟨rfl, hs, hf⟩
      have HSi := Lib.hid hs
      have SBi := Lib.hid (SBh.out.frm hf nb2.out)
      have HBi := Lib.hid (Frm.below HBh.out hf sh ngb.out)
      have si : w.heap.size ≤ wi.heap.size := HBi.out.size
      clear hs hf HSh SBh HBh
      rw [hY] at HSi
      go_wp2_with fail
      refine (read_any g b _ _ _ _ 2 (by decide) _ HSi.out (by omega)).mono ?_
      rintro e wj ⟨vx, rfl, hox, hbj⟩
      rw [show (plainS (one 2 Y)).f = one 2 Y from rfl, hY2] at hox
      rw [show (plainS (one 2 Y)).f = one 2 Y from rfl, one_same, hY1]
      obtain ⟨Ax, cx, rfl⟩ := own_slice' hox
      have HSj := Lib.hid (HSi.out.below hbj)
      have SBj := Lib.hid (SBi.out.below hbj)
      have HBj := Lib.hid (HBi.out.trans (hbj.mono si))
      have sj : w.heap.size ≤ wj.heap.size := HBj.out.size
      clear hox hbj HSi SBi HBi
      obtain ⟨KM, hKM⟩ : ∃ q, k * m = q := ⟨_, rfl⟩
      have iwm : IntKind.i64.wrap ((k : Int) * (m : Int)) = (KM : Int) := by
        rw [← Int.natCast_mul, hKM]
        exact IntWalk.i64_in _ ⟨by omega, by omega⟩
      have iwm2 : (k : Int) * (m : Int) = (KM : Int) := by rw [← Int.natCast_mul, hKM]
      rw [hKM]
      have HY1 := Lib.hid hY1
      clear hY hY1 hY2 hKM
      by_cases hk0 : k = 0
      ·
        have hq : ¬ (0 : Int) < (k : Int) := by omega
        have hq2 : decide (0 < k) = false := by simp [hk0]
        rw [hq2]
        clear hk0
        go_wp2_with fail
        refine (app_any g b _ _ _ _ 2 _ HSj.out (by decide) A2 m c2 xb SBj.out (by simp [maxLen]; omega) (by omega) (by omega) nb.out 0 _ (app_one_any 2 Y xb (by omega))).mono ?_
        rintro e wk ⟨rfl, hs, hf⟩
        have HSk := Lib.hid hs
        have SBk := Lib.hid (SBj.out.frm hf nb2.out)
        have HBk := Lib.hid (Frm.below HBj.out hf sj ngb.out)
        have sk : w.heap.size ≤ wk.heap.size := HBk.out.size
        clear hs hf HSj SBj HBj
        go_wp2_with fail
        refine (sync_any g b _ _ _ _ 2 _ HSk.out (by decide) (by simp [maxLen]; omega) 0 _ (sync_one 2 _ _ _ (by omega))).mono ?_
        rintro e wl ⟨rfl, hs, hf⟩
        have HSl := Lib.hid hs
        have SBl := Lib.hid (SBk.out.frm hf nb2.out)
        have HBl := Lib.hid (Frm.below HBk.out hf sk ngb.out)
        have sl : w.heap.size ≤ wl.heap.size := HBl.out.size
        clear hs hf HSk SBk HBk
        go_wp2_with fail
        refine (drop_any g b _ _ _ _ 2 _ HSl.out (by decide) 0 _ (drop_one 2 _ (by omega))).mono ?_
        rintro e wm ⟨rfl, hs, hf⟩
        have HSm := Lib.hid hs
        have SBm := Lib.hid (SBl.out.frm hf nb2.out)
        have HBm := Lib.hid (Frm.below HBl.out hf sl ngb.out)
        have sm : w.heap.size ≤ wm.heap.size := HBm.out.size
        clear hs hf HSl SBl HBl
        go_wp2_with fail
        refine (blocks_any g b _ _ _ _ _ HSm.out (by omega)).mono ?_
        rintro e wn ⟨v, ss, rfl, _, hmm, _, _, hrow, hbn⟩
        obtain rfl := rising_nil (fun k hk => by have := (hmm k).1 hk; simp [plainS] at this)
        obtain ⟨A, c, rfl⟩ := own_slice' hrow
        have HBn := Lib.hid (HBm.out.trans (hbn.mono sm))
        clear hrow hbn hmm HSm SBm HBm
        go_wp2_with fail
        refine (wakes_any _).mono ?_
        rintro e wo ⟨rfl, hbo⟩
        have HBo := Lib.hid (HBn.out.trans (hbo.mono HBn.out.size))
        clear hbo
        go_wp2_with fail
        go_ret
        exact ⟨rfl, HBo.out⟩
      ·
        have hq : (0 : Int) < (k : Int) := by omega
        have hq2 : decide (0 < k) = true := by simp; omega
        rw [hq2]
        clear hk0
        go_wp2_with fail
        refine (app_any g b _ _ _ _ 2 _ HSj.out (by decide) A2 m c2 xb SBj.out (by simp [maxLen]; omega) (by omega) (by omega) nb.out 0 _ (app_one_any 2 Y xb (by omega))).mono ?_
        rintro e wk ⟨rfl, hs, hf⟩
        have HSk := Lib.hid hs
        have SBk := Lib.hid (SBj.out.frm hf nb2.out)
        have HBk := Lib.hid (Frm.below HBj.out hf sj ngb.out)
        have sk : w.heap.size ≤ wk.heap.size := HBk.out.size
        clear hs hf HSj SBj HBj
        go_wp2_with fail
        refine (sync_any g b _ _ _ _ 2 _ HSk.out (by decide) (by simp [maxLen]; omega) 0 _ (sync_one 2 _ _ _ (by omega))).mono ?_
        rintro e wl ⟨rfl, hs, hf⟩
        have HSl := Lib.hid hs
        have SBl := Lib.hid (SBk.out.frm hf nb2.out)
        have HBl := Lib.hid (Frm.below HBk.out hf sk ngb.out)
        have sl : w.heap.size ≤ wl.heap.size := HBl.out.size
        clear hs hf HSk SBk HBk
        go_wp2_with fail
        refine (drop_any g b _ _ _ _ 2 _ HSl.out (by decide) 0 _ (drop_one 2 _ (by omega))).mono ?_
        rintro e wm ⟨rfl, hs, hf⟩
        have HSm := Lib.hid hs
        have SBm := Lib.hid (SBl.out.frm hf nb2.out)
        have HBm := Lib.hid (Frm.below HBl.out hf sl ngb.out)
        have sm : w.heap.size ≤ wm.heap.size := HBm.out.size
        clear hs hf HSl SBl HBl
        go_wp2_with fail
        refine (blocks_any g b _ _ _ _ _ HSm.out (by omega)).mono ?_
        rintro e wn ⟨v, ss, rfl, _, hmm, _, _, hrow, hbn⟩
        obtain rfl := rising_nil (fun k hk => by have := (hmm k).1 hk; simp [plainS] at this)
        obtain ⟨A, c, rfl⟩ := own_slice' hrow
        have HBn := Lib.hid (HBm.out.trans (hbn.mono sm))
        clear hrow hbn hmm HSm SBm HBm
        go_wp2_with fail
        refine (wakes_any _).mono ?_
        rintro e wo ⟨rfl, hbo⟩
        have HBo := Lib.hid (HBn.out.trans (hbo.mono HBn.out.size))
        clear hbo
        go_wp2_with fail
        go_ret
        exact ⟨rfl, HBo.out⟩

/-! ### THE ROW's STEP: WRITTEN OUT: LEAVE IT -/
set_option maxRecDepth 100000 in
theorem lifted (os : Os) (started : os.Started) (H : Type) (enc : TypeId × Value → H) :
    ReturnsInHanded {} Try.checked os 7 .any (Rows.storeFuseSpec.pre6 enc Try.prog Try.f7 Rows.storeFuseRow.domain false) (Rows.storeFuseSpec.post enc Try.prog Try.f7 false true false false) := by
  refine returnsInHanded_of_change (C := Try.checked) own started (by kernel_rfl) Try.func7
    (ChangeSpec.witness6 (enc := enc) (C := Try.checked) false ⟨#[], #[.int .i64 0, .slice none 0 0], []⟩ 8 (by kernel_rfl) (by kernel_rfl) (by kernel_rfl) (by kernel_rfl)) ?_
  intro W base args ds gs before hval0 hW hcnd _
  have hval : ∀ (j : Nat) t v, Try.f7.params[j]? = some t → args[j]? = some v → Value.okWide Try.prog W .any base t v := hval0
  have hW' := hW
  obtain ⟨p, q, hA0, hV, rfl, hfz, hnd⟩ := hW
  have hA : DataW.TrodAll enc Try.prog W 0 (fun _ => true) true Try.f7.params.toList args.toList ds p := hA0
  rw [Try.params7] at hA hval
  obtain ⟨v0, vs0, d0, ds0, p0, q0, hargs, rfl, rfl, h0, r0⟩ := trodAll_cons hA
  obtain ⟨v1, vs1, d1, ds1, p1, q1, rfl, rfl, rfl, h1, r1⟩ := trodAll_cons r0
  obtain ⟨rfl, rfl, rfl⟩ := trodAll_nil r1
  obtain rfl : args = #[v0, v1] := by cases args; simp_all
  obtain ⟨rfl, rfl⟩ := trodVars_none hV
  obtain ⟨a0, rfl, rfl, rfl, w0⟩ := open_int Try.underlying3 (hval 0 3 v0 rfl rfl) h0
  obtain ⟨a1, len1, cap1, rfl⟩ := okWide_slice Try.underlying23 (hval 1 23 v1 rfl rfl)
  have k1 := h1
  have lt1 : ∀ x ∈ p1, x.block < W.heap.size := by obtain ⟨m, hm⟩ := k1; exact DataW.trod_lt m _ _ _ hm
  obtain ⟨z1, w1⟩ : ∃ zs, IsRow .u8 W a1 len1 cap1 zs := by
    obtain ⟨fuel, hf⟩ := h1
    rcases open_ints Try.underlying23 Try.underlying5 (by kernel_rfl) hf with ⟨hcs, _⟩ | ⟨x, l, c, zs, hcs, _, hl, hm, hz, _, hcell, hwz⟩
    · simp [Value.cells] at hcs
      obtain ⟨rfl, rfl, rfl⟩ := hcs
      exact ⟨[], .inl ⟨rfl, rfl, rfl, rfl⟩⟩
    · simp [Value.cells] at hcs
      obtain ⟨rfl, rfl, rfl⟩ := hcs
      exact ⟨zs, .inr ⟨_, rfl, hl, hm, by simpa using hz, hcell, hwz⟩⟩
  clear hA0 hval0
  refine (walk a0 a1 len1 cap1 z1 W w0 w1).mono fun e W' ⟨he, bel⟩ => ?_
  subst he
  exact ⟨_, rfl, _, _, _, [], _, [], hW', trodAll_mk1 (shut_bool Try.underlying4 _), (trodAll_cons_mk (shut_int Try.underlying3 w0) (trodAll_cons_mk (Below.trod laidOut (by kernel_rfl) (of_decide_eq_true (by kernel_rfl)) k1 bel lt1) trodAll_mk0)), rfl, bel.frame _, fun h => by cases h⟩

theorem over : Rows.storeFuseRow.holds Try.pinned (OpenSpec.ofChange Rows.storeFuseSpec) :=
  OpenClaim.holds_of_wide 7 Try.f7 rfl rfl rfl rfl rfl rfl rfl ⟨rfl, rfl, rfl, rfl, rfl⟩ rfl rfl rfl rfl rfl (by kernel_rfl) Try.func7 (by kernel_rfl)
    (of_decide_eq_true (by kernel_rfl)) (by unfold Func.isWrapper; first | (rw [if_pos (by decide +kernel)]; kernel_rfl) | (rw [if_neg (by decide +kernel)]; exact ⟨rfl, rfl⟩))
    (fun os started H enc _ => lifted os started H enc)

/-- ████ THE STATEMENT ████ -/
theorem proved : Rows.StoreFuseSaid := over
#print axioms proved
end Go.Proofs.Ytfcagjnedaaadaa.storeFuse
