/- Proved: StoreCuts returns true for every input, and leaves its arguments as they were; no further condition.
   The frame around the walk was written by the guide's proof-skeleton program. -/
import Derived.Test.YtfcagjnedaaadaaRows
import Derived.Test.YtfcagjnedaaadaaP2
import Derived.Deep.RegionHeld3
import Derived.WalkKit
import Derived.ProofKit
import Derived.OpenShut
import Derived.ShutString
import Derived.ChangeOld
import Derived.Below
namespace Go.Proofs.Ytfcagjnedaaadaa.storeCuts
open Go.ChangeShapes Go.WideShapes Go.ChangeAt Go.RowKit
open Go.ChangeMaps (open_string shut_string)
set_option linter.unusedVariables false

theorem own : ownKnob Try.prog.godebug = none := by kernel_rfl
theorem laidOut : laidOutB Try.prog = true := by kernel_rfl

/-- WHAT THE WALK IS TOLD OF A SLICE OF INTEGERS THAT CAME IN: it is nil; or it leads to a row of 'cap' cells, the numbers 'zs' (the first 'len' are its elements, the rest its spare room), each fitting its kind. -/
def IsRow (k : IntKind) (w : World) (a : Option Addr) (len cap : Nat) (zs : List Int) : Prop :=
  (a = none ∧ len = 0 ∧ cap = 0 ∧ zs = []) ∨
  ∃ x, a = some x ∧ len ≤ cap ∧ cap ≤ maxLen ∧ zs.length = cap ∧ (∀ i, i < zs.length → w.cell? (x.add i) = some (.int k (zs.getD i 0))) ∧ ∀ n ∈ zs, (Lit.int k n).wf = true

/-! ### STEP 1: THE WALK: the Go text returns true, AND WRITES NOTHING THAT WAS THERE: 'Below w.heap.size w w'' (Derived/Below.lean: '.refl', '.alloc', '.drew', '.setCell' at a new block, '.trans'). Open each 'IsRow' by 'rcases' AHEAD of 'go_enter'; part every test ahead of the walk. -/
set_option maxHeartbeats 16000000 in
set_option maxRecDepth 100000 in
theorem walk (a0 : Option Addr) (len0 cap0 : Nat) (z0 : List Int) (a1 : Option Addr) (len1 cap1 : Nat) (z1 : List Int) (a2 : Int) (a3 : Int) (w : World) (w0 : IsRow .u8 w a0 len0 cap0 z0) (w1 : IsRow .u8 w a1 len1 cap1 z1) (w2 : (Lit.int .i64 a2).wf = true) (w3 : (Lit.int .i64 a3).wf = true) :
    Calls Try.prog 6 #[.slice a0 len0 cap0, .slice a1 len1 cap1, .int .i64 a2, .int .i64 a3] w fun e w' => e = .returned (.bool true) ∧ Below w.heap.size w w' := by
  obtain ⟨za, hza, _⟩ := bytes_of_row w0
  obtain ⟨zb, hzb, _⟩ := bytes_of_row w1
  have HA := Lib.hid hza
  have HB := Lib.hid hzb
  have SB0 := Lib.hid hzb
  clear hza hzb w0 w1 w2 w3 z0 z1
  have HI := Lib.hid Try.info5
  go_enter Try.func6, Try.ntmps6
  go_wp2_with fail
  refine (cutb_any _ _ _ _ 30 HA.out (by omega)).mono ?_
  rintro e w1 ⟨va, rfl, hoa, hb1⟩
  obtain ⟨Aa, ca, rfl⟩ := own_slice' hoa
  have HOA := Lib.hid hoa
  have HB1 := Lib.hid hb1
  have HBB := Lib.hid (HB.out.below hb1)
  have s1 : w.heap.size ≤ w1.heap.size := hb1.size
  clear hoa hb1 HA HB
  obtain ⟨m0, hm0⟩ : ∃ m, min len0 30 = m := ⟨_, rfl⟩
  have m03 : m0 ≤ 30 := by omega
  rw [u8s_take, hm0] at HOA
  rw [hm0]
  obtain ⟨xa, hxa⟩ : ∃ x, za.take 30 ++ [1, 2] = x := ⟨_, rfl⟩
  go_wp2_with (at_builtin; refine wp_app w.heap.size rfl _ _ 23 5 (.int .u8 0) 1 1 rfl Try.underlying23 HI.out rfl (by omega) (by omega) rfl rfl (HOA.out.alloc _) (Sl.box w1 5 #[.int .u8 1, .int .u8 2] 2 rfl (by simp [maxLen]) (by simp [Value.oneCell'])) (by omega) (Nat.le_trans s1 (by simp)) ?_; intro v2 w2 hown hfr hat; rw [show u8s (za.take 30) ++ [Value.int .u8 1, Value.int .u8 2] = u8s (za.take 30 ++ [1, 2]) from by simp [u8s], hxa] at hown; obtain ⟨A2, c2, rfl⟩ := own_slice' hown)
  have HB2 := Lib.hid (Frm.below (HB1.out.alloc s1 _) hfr (Nat.le_trans s1 (by simp)) (fun j hj => (HOA.out.lt j hj).1))
  obtain ⟨ma, hma⟩ : ∃ m, m0 + 2 = m := ⟨_, rfl⟩
  rw [hma] at hown
  rw [hma]
  have ma4 : ma ≤ 32 := by omega
  have ma0 : 0 < ma := by omega
  have SA2 := Lib.hid (Sl.of_own hown (u8s_one _))
  have la := sl_len SA2.out
  have LA := Lib.hid (fun j hj => (hown.lt j hj).2)
  have s2 : w.heap.size ≤ w2.heap.size := HB2.out.size
  have SBw := Lib.hid ((SB0.out).below HB2.out)
  clear hown hfr hat HOA HB1 HBB hm0 hma hxa
  go_wp2_with fail
  refine (cutb_any _ _ _ _ 30 SBw.out (by omega)).mono ?_
  rintro e w2b ⟨vb, rfl, hob, hb2⟩
  obtain ⟨Ab, cb, rfl⟩ := own_slice' hob
  have SA := Lib.hid (SA2.out.below hb2)
  have SB := Lib.hid (Sl.of_own hob (by rw [u8s_take]; exact u8s_one _))
  have LA' := Lib.hid (fun j hj => Nat.lt_of_lt_of_le (LA.out j hj) hb2.size)
  have LB := Lib.hid (fun j hj => (hob.lt j hj).2)
  have HB2' := Lib.hid (HB2.out.trans (hb2.mono s2))
  have s2' : w.heap.size ≤ w2b.heap.size := HB2'.out.size
  clear hob hb2 SA2 SBw HB2 LA
  obtain ⟨xb, hxb⟩ : ∃ x, zb.take 30 = x := ⟨_, rfl⟩
  obtain ⟨mb, hmb⟩ : ∃ m, min len1 30 = m := ⟨_, rfl⟩
  have mb4 : mb ≤ 30 := by omega
  rw [u8s_take, hxb, hmb] at SB
  rw [hmb] at LB
  rw [hmb]
  have lb := sl_len SB.out
  clear hxb hmb
  have iwa : IntKind.i64.wrap ((ma : Int) + 1) = (ma : Int) + 1 := IntWalk.i64_in _ ⟨by omega, by omega⟩
  have iwb : IntKind.i64.wrap ((mb : Int) + 1) = (mb : Int) + 1 := IntWalk.i64_in _ ⟨by omega, by omega⟩
  go_wp2_with fail
  refine (within_any a2 ((ma : Int) + 1) _ (by omega) (by omega)).mono ?_
  rintro e _ ⟨rfl, rfl⟩
  obtain ⟨nn, hnn⟩ : ∃ i : Nat, (i : Int) = a2 % ((ma : Int) + 1) := ⟨(a2 % ((ma : Int) + 1)).toNat, Int.toNat_of_nonneg (Int.emod_nonneg _ (by omega))⟩
  have nn1 : nn ≤ ma := by have := Int.emod_lt_of_pos a2 (b := (ma : Int) + 1) (by omega); omega
  rw [← hnn]
  clear hnn
  go_wp2_with fail
  refine (new_any _).mono ?_
  rintro e w3 ⟨g, b, rfl, hg, hb, hs, hb3⟩
  have HS3 := Lib.hid hs
  have HB3 := Lib.hid (HB2'.out.trans (hb3.mono s2'))
  have SA3 := Lib.hid (SA.out.below hb3)
  have SB3 := Lib.hid (SB.out.below hb3)
  have s3 : w.heap.size ≤ w3.heap.size := HB3.out.size
  have hgw : w.heap.size ≤ g := Nat.le_trans s2' hg
  have hbw : w.heap.size ≤ b := Nat.le_trans s2' hb
  have na : Hid (∀ j, (Value.slice A2 ma c2).ownBlock = some j → j ≠ g) := Lib.hid (fun j hj e => by have := LA'.out j hj; omega)
  have nb : Hid (∀ j, (Value.slice Ab mb cb).ownBlock = some j → j ≠ g) := Lib.hid (fun j hj e => by have := LB.out j hj; omega)
  have na2 : Hid (∀ j, (Value.slice A2 ma c2).ownBlock = some j → ¬ (j = g ∨ j = b)) := Lib.hid (fun j hj e => by have := LA'.out j hj; omega)
  have nb2 : Hid (∀ j, (Value.slice Ab mb cb).ownBlock = some j → ¬ (j = g ∨ j = b)) := Lib.hid (fun j hj e => by have := LB.out j hj; omega)
  have ngb : Hid (∀ j, j = g ∨ j = b → w.heap.size ≤ j) := Lib.hid (fun j hj => by omega)
  clear hs hb3 HB2' SA SB
  go_wp2_with fail
  refine (app_any g b _ _ _ (plainS _) 5 _ HS3.out (by decide) A2 ma c2 xa SA3.out (by simp [maxLen]) (by omega) (by omega) na.out 0 _ (app_new 5 xa (by omega))).mono ?_
  rintro e w4 ⟨rfl, hs, hf⟩
  have HS4 := Lib.hid hs
  have SA4 := Lib.hid (SA3.out.frm hf na2.out)
  have SB4 := Lib.hid (SB3.out.frm hf nb2.out)
  have HB4 := Lib.hid (Frm.below HB3.out hf s3 ngb.out)
  have s4 : w.heap.size ≤ w4.heap.size := HB4.out.size
  clear hs hf HS3 SA3 SB3 HB3
  go_wp2_with fail
  refine (cut_any g b _ _ _ _ 5 ((ma : Int) + 1) _ HS4.out (by decide) (by simp [maxLen]) (by omega) 1 _ (cutS_arg _ 5 _ (by omega) (by simp) (.inr (by rw [bkAt_one, la]; omega)))).mono ?_
  rintro e w5 ⟨rfl, hs, hf⟩
  have HS5 := Lib.hid hs
  have SA5 := Lib.hid (SA4.out.frm hf na2.out)
  have SB5 := Lib.hid (SB4.out.frm hf nb2.out)
  have HB5 := Lib.hid (Frm.below HB4.out hf s4 ngb.out)
  have s5 : w.heap.size ≤ w5.heap.size := HB5.out.size
  clear hs hf HS4 SA4 SB4 HB4
  go_wp2_with fail
  refine (cut_any g b _ _ _ _ 5 (-1) _ HS5.out (by decide) (by simp [maxLen]) (by omega) 1 _ (cutS_arg _ 5 _ (by omega) (by simp) (.inl (by omega)))).mono ?_
  rintro e w6 ⟨rfl, hs, hf⟩
  have HS6 := Lib.hid hs
  have SA6 := Lib.hid (SA5.out.frm hf na2.out)
  have SB6 := Lib.hid (SB5.out.frm hf nb2.out)
  have HB6 := Lib.hid (Frm.below HB5.out hf s5 ngb.out)
  have s6 : w.heap.size ≤ w6.heap.size := HB6.out.size
  clear hs hf HS5 SA5 SB5 HB5
  go_wp2_with fail
  refine (cut_any g b _ _ _ _ 5 (nn : Int) _ HS6.out (by decide) (by simp [maxLen]) (by omega) 0 _ (cut_one 5 xa _ _ _ (by omega) (by omega) (by rw [la]; omega))).mono ?_
  rintro e w7 ⟨rfl, hs, hf⟩
  have HS7 := Lib.hid hs
  have SA7 := Lib.hid (SA6.out.frm hf na2.out)
  have SB7 := Lib.hid (SB6.out.frm hf nb2.out)
  have HB7 := Lib.hid (Frm.below HB6.out hf s6 ngb.out)
  have s7 : w.heap.size ≤ w7.heap.size := HB7.out.size
  clear hs hf HS6 SA6 SB6 HB6
  obtain ⟨xc, hxc⟩ : ∃ x, xa.take nn = x := ⟨_, rfl⟩
  have lc : xc.length = nn := by rw [← hxc, List.length_take]; omega
  rw [Int.toNat_natCast, hxc] at HS7
  rw [← lc] at HS7
  have HN := Lib.hid lc
  have HXC := Lib.hid hxc
  clear hxc lc
  go_wp2_with fail
  refine (crash_any g b _ _ _ _ 0 _ HS7.out (by omega) (by simp [maxLen])).mono ?_
  rintro e w8 ⟨rfl, hs, hf⟩
  have HS8 := Lib.hid hs
  have SA8 := Lib.hid (SA7.out.frm hf na2.out)
  have SB8 := Lib.hid (SB7.out.frm hf nb2.out)
  have HB8 := Lib.hid (Frm.below HB7.out hf s7 ngb.out)
  have s8 : w.heap.size ≤ w8.heap.size := HB8.out.size
  clear hs hf HS7 SA7 SB7 HB7
  rw [crash_one, Option.bind_some, crash_full] at HS8
  go_wp2_with fail
  refine (read_any g b _ _ _ _ 5 (by decide) _ HS8.out (by omega)).mono ?_
  rintro e w9 ⟨vx, rfl, hox, hb9⟩
  rw [show (plainS (one 5 (some (xc, (xc.length : Int), true)))).f = one 5 (some (xc, (xc.length : Int), true)) from rfl, bkAt_one] at hox
  rw [show (plainS (one 5 (some (xc, (xc.length : Int), true)))).f = one 5 (some (xc, (xc.length : Int), true)) from rfl, one_same]
  simp only [Option.isSome_some]
  rw [HN.out] at hox
  obtain ⟨Ax, cx, rfl⟩ := own_slice' hox
  have HX9 := Lib.hid (Sl.of_own hox (u8s_one _))
  have HS9 := Lib.hid (HS8.out.below hb9)
  have SA9 := Lib.hid (SA8.out.below hb9)
  have SB9 := Lib.hid (SB8.out.below hb9)
  have HB9 := Lib.hid (HB8.out.trans (hb9.mono s8))
  have s9 : w.heap.size ≤ w9.heap.size := HB9.out.size
  clear hox hb9 HS8 SA8 SB8 HB8
  have hcc : nn ≤ c2 := by
    obtain ⟨_, _, e, h1, _⟩ := SA9.out
    injection e with _ _ e3
    subst e3
    omega
  have kc : (nn : Int) ≤ (c2 : Int) := by omega
  have k0 : (0 : Int) ≤ (nn : Int) := by omega
  have ST9 := Lib.hid (SA9.out.take nn1)
  rw [u8s_take, HXC.out] at ST9
  go_wp2_with fail
  refine (sameb_any _ _ _ nn xc HX9.out ST9.out).mono ?_
  rintro e _ ⟨rfl, m1, rfl⟩
  have fd := Lib.hid ((Frm.refl (fun _ => False) w9).drewN m1)
  obtain ⟨wa, hwa⟩ : ∃ W, W = w9.drewN m1 := ⟨_, rfl⟩
  have HSa := Lib.hid (show Sto wa g b _ _ _ _ from hwa ▸ HS9.out.frm fd.out (fun _ _ h => h) (fun h => h) (fun h => h))
  have SAa := Lib.hid (show Sl wa 1 (.slice A2 ma c2) ma (u8s xa) from hwa ▸ SA9.out.drewN m1)
  have SBa := Lib.hid (show Sl wa 1 (.slice Ab mb cb) mb (u8s xb) from hwa ▸ SB9.out.drewN m1)
  have HBa := Lib.hid (show Below w.heap.size w wa from hwa ▸ HB9.out.drewN'' m1)
  have sa : w.heap.size ≤ wa.heap.size := HBa.out.size
  rw [← hwa]
  clear hwa fd HS9 SA9 SB9 HB9 HX9 ST9
  go_wp2_with fail
  refine (app_any g b _ _ _ _ 5 _ HSa.out (by decide) Ab mb cb xb SBa.out (by simp [maxLen]) (by omega) (by omega) nb.out 0 _ (app_one 5 xc xb _ _ (by omega))).mono ?_
  rintro e wb ⟨rfl, hs, hf⟩
  have HSb := Lib.hid hs
  have SAb := Lib.hid (SAa.out.frm hf na2.out)
  have SBb := Lib.hid (SBa.out.frm hf nb2.out)
  have HBb := Lib.hid (Frm.below HBa.out hf sa ngb.out)
  have sb : w.heap.size ≤ wb.heap.size := HBb.out.size
  clear hs hf HSa SAa SBa HBa
  go_wp2_with fail
  refine (within_any a3 ((mb : Int) + 1) _ (by omega) (by omega)).mono ?_
  rintro e _ ⟨rfl, rfl⟩
  obtain ⟨kp, hkp⟩ : ∃ i : Nat, (i : Int) = a3 % ((mb : Int) + 1) := ⟨(a3 % ((mb : Int) + 1)).toNat, Int.toNat_of_nonneg (Int.emod_nonneg _ (by omega))⟩
  have kp1 : kp ≤ mb := by have := Int.emod_lt_of_pos a3 (b := (mb : Int) + 1) (by omega); omega
  rw [← hkp]
  clear hkp
  go_wp2_with fail
  refine (crash_any g b _ _ _ _ kp _ HSb.out (by omega) (by simp [maxLen])).mono ?_
  rintro e wc ⟨rfl, hs, hf⟩
  have HSc := Lib.hid hs
  have SAc := Lib.hid (SAb.out.frm hf na2.out)
  have SBc := Lib.hid (SBb.out.frm hf nb2.out)
  have HBc := Lib.hid (Frm.below HBb.out hf sb ngb.out)
  have sc : w.heap.size ≤ wc.heap.size := HBc.out.size
  clear hs hf HSb SAb SBb HBb
  rw [crash_one, Option.bind_some, crash_part kp xc xb (by omega)] at HSc
  obtain ⟨xd, hxd⟩ : ∃ x, xc ++ xb.take kp = x := ⟨_, rfl⟩
  have ld : xd.length = nn + kp := by rw [← hxd, List.length_append, List.length_take, HN.out]; omega
  rw [hxd] at HSc
  have HXD := Lib.hid hxd
  have HLD := Lib.hid ld
  clear hxd ld
  go_wp2_with fail
  refine (read_any g b _ _ _ _ 5 (by decide) _ HSc.out (by omega)).mono ?_
  rintro e wd ⟨vy, rfl, hoy, hbd⟩
  rw [show (plainS (one 5 (some (xd, (xd.length : Int), true)))).f = one 5 (some (xd, (xd.length : Int), true)) from rfl, bkAt_one, HLD.out] at hoy
  rw [show (plainS (one 5 (some (xd, (xd.length : Int), true)))).f = one 5 (some (xd, (xd.length : Int), true)) from rfl, one_same]
  simp only [Option.isSome_some]
  obtain ⟨Ay, cy, rfl⟩ := own_slice' hoy
  have HYd := Lib.hid (Sl.of_own hoy (u8s_one _))
  have HSd := Lib.hid (HSc.out.below hbd)
  have SAd := Lib.hid (SAc.out.below hbd)
  have SBd := Lib.hid (SBc.out.below hbd)
  have HBd := Lib.hid (HBc.out.trans (hbd.mono sc))
  have sd : w.heap.size ≤ wd.heap.size := HBd.out.size
  have LY := Lib.hid (fun j hj => (hoy.lt j hj).2)
  clear hoy hbd HSc SAc SBc HBc
  have hcb : mb ≤ cb := by
    obtain ⟨_, _, e, h1, _⟩ := SBd.out
    injection e with _ _ e3
    subst e3
    omega
  have kd : (kp : Int) ≤ (cb : Int) := by omega
  have kd0 : (0 : Int) ≤ (kp : Int) := by omega
  have STd := Lib.hid (SAd.out.take nn1)
  rw [u8s_take, HXC.out] at STd
  go_wp2_with fail
  have SKd := Lib.hid (SBd.out.take kp1)
  rw [u8s_take] at SKd
  have hgd := HSd.out.glt
  have hbd' := HSd.out.blt
  have hdz : wd.drew.heap.size = wd.heap.size := rfl
  have HYd2 := Lib.hid (HYd.out.drew)
  have STd2 := Lib.hid (STd.out.drew)
  go_region_held3 (fun _ => True) (trivial) (first | (go_at_call 11; (with_reducible refine (copy_any _ _ _ _ STd2.out (by omega)).mono ?_); rintro e we ⟨vc, rfl, hoc, hbe⟩; have HOC := Lib.hid (own_base hoc sd); have HOC2 := Lib.hid (fun j hj => (hoc.lt j hj).1); have HSe := Lib.hid (show Sto we g b _ _ _ _ from HSd.out.lt.below hbe.un); have HYe := Lib.hid (HYd2.out.below hbe); have SBe := Lib.hid (SBd.out.below hbe.un); have SKe := Lib.hid (SKd.out.below hbe.un); have HBe := Lib.hid (HBd.out.trans (hbe.un.mono sd)); have se : w.heap.size ≤ we.heap.size := HBe.out.size; clear hoc hbe) | (refine step_app (v := vc) w.heap.size (by rfl) _ _ 23 5 (.int .u8 0) 1 1 (by rfl) Try.underlying23 HI.out rfl (by omega) (by omega) (by rfl) (by rfl) HOC.out SKe.out (by omega) se ?_; intro vf wf hown hfr hat; rw [← u8s_append, HXD.out] at hown; obtain ⟨Af, cf, rfl⟩ := own_slice' hown; have hvc : ∀ j, vc.ownBlock = some j → ¬ j = g ∧ ¬ j = b := (fun j hj => by have := HOC2.out j hj; omega); have HSf := Lib.hid (HSe.out.frm hfr (fun j hj e => by have := hj.2; have := HOC2.out j e; omega) (fun e => (hvc g e).1 rfl) (fun e => (hvc b e).2 rfl)); have HYf := Lib.hid (HYe.out.frm hfr (fun j hj e => by have := LY.out j hj; have := HOC2.out j e; omega)); have SBf := Lib.hid (SBe.out.frm hfr (fun j hj e => by have h1 := LB.out j hj; have := HOC2.out j e; have := hg; omega)); have HBf := Lib.hid (Frm.below HBe.out hfr se (fun j hj => (HOC.out.lt j hj).1)); have sf : w.heap.size ≤ wf.heap.size := HBf.out.size; have HFf := Lib.hid (Sl.of_own hown (u8s_one _)); clear hown hfr hat hvc) | (go_at_call 15; (with_reducible refine (sameb_any _ _ _ (nn + kp) xd HYf.out HFf.out).mono ?_); rintro e _ ⟨rfl, m2, rfl⟩))
  clear HSd HYd HYd2 SAd HBd STd STd2 HSe HYe SBe HBe SKe HOC
  obtain ⟨wg, hwg⟩ : ∃ W, W = wf.drewN m2 := ⟨_, rfl⟩
  have HSg := Lib.hid (show Sto wg g b _ _ _ _ from hwg ▸ HSf.out.frm ((Frm.refl (fun _ => False) wf).drewN m2) (fun _ _ h => h) (fun h => h) (fun h => h))
  have SBg := Lib.hid (show Sl wg 1 (.slice Ab mb cb) mb (u8s xb) from hwg ▸ SBf.out.drewN m2)
  have HBg := Lib.hid (show Below w.heap.size w wg from hwg ▸ HBf.out.drewN'' m2)
  have sg : w.heap.size ≤ wg.heap.size := HBg.out.size
  rw [← hwg]
  clear hwg HSf SBf HBf HYf HFf
  go_wp2_with fail
  refine (read_any g b _ _ _ _ 6 (by decide) _ HSg.out (by omega)).mono ?_
  rintro e wh ⟨vz, rfl, hoz, hbh⟩
  rw [show (plainS (one 5 (some (xd, (xd.length : Int), true)))).f = one 5 (some (xd, (xd.length : Int), true)) from rfl, one_other 5 6 _ (by omega)]
  simp only [Option.isSome_none]
  have HSh := Lib.hid (HSg.out.below hbh)
  have SBh := Lib.hid (SBg.out.below hbh)
  have HBh := Lib.hid (HBg.out.trans (hbh.mono sg))
  have sh : w.heap.size ≤ wh.heap.size := HBh.out.size
  clear hoz hbh HSg SBg HBg
  go_wp2_with fail
  refine (drop_any g b _ _ _ _ 5 _ HSh.out (by decide) 0 _ (drop_one 5 _ (by omega))).mono ?_
  rintro e wi ⟨rfl, hsi, hfi⟩
  have HSi := Lib.hid hsi
  have SBi := Lib.hid (SBh.out.frm hfi nb2.out)
  have HBi := Lib.hid (Frm.below HBh.out hfi sh ngb.out)
  have si : w.heap.size ≤ wi.heap.size := HBi.out.size
  clear hsi hfi HSh SBh HBh
  go_wp2_with fail
  refine (blocks_any g b _ _ _ _ _ HSi.out (by omega)).mono ?_
  rintro e wj ⟨v, ss, rfl, _, hm, _, _, hrow, hbj⟩
  obtain rfl := rising_nil (fun k hk => by have := (hm k).1 hk; simp [plainS] at this)
  obtain ⟨A, c, rfl⟩ := own_slice' hrow
  have HSj := Lib.hid (HSi.out.below hbj)
  have SBj := Lib.hid (SBi.out.below hbj)
  have HBj := Lib.hid (HBi.out.trans (hbj.mono si))
  have sj : w.heap.size ≤ wj.heap.size := HBj.out.size
  clear hrow hbj hm HSi SBi HBi
  go_wp2_with fail
  refine (app_any g b _ _ _ _ 5 _ HSj.out (by decide) Ab mb cb xb SBj.out (by simp [maxLen]) (by omega) (by omega) nb.out 0 _ (app_new 5 xb (by omega))).mono ?_
  rintro e wk ⟨rfl, hsk, hfk⟩
  have HSk := Lib.hid hsk
  have HBk := Lib.hid (Frm.below HBj.out hfk sj ngb.out)
  have sk : w.heap.size ≤ wk.heap.size := HBk.out.size
  clear hsk hfk HSj SBj HBj
  go_wp2_with fail
  refine (blocks_any g b _ _ _ _ _ HSk.out (by omega)).mono ?_
  rintro e wl ⟨v, ss, rfl, hp, hm, _, _, hrow, hbl⟩
  obtain rfl := rising_one (n := 5) hp (fun k => by
    rw [hm k]
    by_cases e : k = 5
    · subst e; simp [plainS]
    · simp [plainS, one_other 5 k _ e, e])
  have HRl := Lib.hid (Sl.of_own hrow (i64s_one _))
  have HBl := Lib.hid (HBk.out.trans (hbl.mono sk))
  have sl : w.heap.size ≤ wl.heap.size := HBl.out.size
  clear hrow hbl hm HSk HBk
  go_wp2_with fail
  refine (samei_any _ _ _ 1 [5] (HRl.out.alloc _) (Sl.box wl 3 #[.int .i64 5] 1 rfl (by simp [maxLen]) (by simp [Value.oneCell']))).mono ?_
  rintro e _ ⟨rfl, m3, rfl⟩
  have HBm := Lib.hid ((HBl.out.alloc sl (.cells #[.int .i64 5] 3)).drewN'' m3)
  clear HBl HRl
  go_wp2_with fail
  refine (wakes_any _).mono ?_
  rintro e wn ⟨rfl, hbn⟩
  have HBn := Lib.hid (HBm.out.trans (hbn.mono HBm.out.size))
  clear hbn
  go_wp2_with fail
  go_ret
  exact ⟨rfl, HBn.out⟩

/-! ### THE ROW's STEP: WRITTEN OUT: LEAVE IT -/
set_option maxRecDepth 100000 in
theorem lifted (os : Os) (started : os.Started) (H : Type) (enc : TypeId × Value → H) :
    ReturnsInHanded {} Try.checked os 6 .any (Rows.storeCutsSpec.pre6 enc Try.prog Try.f6 Rows.storeCutsRow.domain false) (Rows.storeCutsSpec.post enc Try.prog Try.f6 false true false false) := by
  refine returnsInHanded_of_change (C := Try.checked) own started (by kernel_rfl) Try.func6
    (ChangeSpec.witness6 (enc := enc) (C := Try.checked) false ⟨#[], #[.slice none 0 0, .slice none 0 0, .int .i64 0, .int .i64 0], []⟩ 8 (by kernel_rfl) (by kernel_rfl) (by kernel_rfl) (by kernel_rfl)) ?_
  intro W base args ds gs before hval0 hW hcnd _
  have hval : ∀ (j : Nat) t v, Try.f6.params[j]? = some t → args[j]? = some v → Value.okWide Try.prog W .any base t v := hval0
  have hW' := hW
  obtain ⟨p, q, hA0, hV, rfl, hfz, hnd⟩ := hW
  have hA : DataW.TrodAll enc Try.prog W 0 (fun _ => true) true Try.f6.params.toList args.toList ds p := hA0
  rw [Try.params6] at hA hval
  obtain ⟨v0, vs0, d0, ds0, p0, q0, hargs, rfl, rfl, h0, r0⟩ := trodAll_cons hA
  obtain ⟨v1, vs1, d1, ds1, p1, q1, rfl, rfl, rfl, h1, r1⟩ := trodAll_cons r0
  obtain ⟨v2, vs2, d2, ds2, p2, q2, rfl, rfl, rfl, h2, r2⟩ := trodAll_cons r1
  obtain ⟨v3, vs3, d3, ds3, p3, q3, rfl, rfl, rfl, h3, r3⟩ := trodAll_cons r2
  obtain ⟨rfl, rfl, rfl⟩ := trodAll_nil r3
  obtain rfl : args = #[v0, v1, v2, v3] := by cases args; simp_all
  obtain ⟨rfl, rfl⟩ := trodVars_none hV
  obtain ⟨a0, len0, cap0, rfl⟩ := okWide_slice Try.underlying23 (hval 0 23 v0 rfl rfl)
  have k0 := h0
  have lt0 : ∀ x ∈ p0, x.block < W.heap.size := by obtain ⟨m, hm⟩ := k0; exact DataW.trod_lt m _ _ _ hm
  obtain ⟨z0, w0⟩ : ∃ zs, IsRow .u8 W a0 len0 cap0 zs := by
    obtain ⟨fuel, hf⟩ := h0
    rcases open_ints Try.underlying23 Try.underlying5 (by kernel_rfl) hf with ⟨hcs, _⟩ | ⟨x, l, c, zs, hcs, _, hl, hm, hz, _, hcell, hwz⟩
    · simp [Value.cells] at hcs
      obtain ⟨rfl, rfl, rfl⟩ := hcs
      exact ⟨[], .inl ⟨rfl, rfl, rfl, rfl⟩⟩
    · simp [Value.cells] at hcs
      obtain ⟨rfl, rfl, rfl⟩ := hcs
      exact ⟨zs, .inr ⟨_, rfl, hl, hm, by simpa using hz, hcell, hwz⟩⟩
  obtain ⟨a1, len1, cap1, rfl⟩ := okWide_slice Try.underlying23 (hval 1 23 v1 rfl rfl)
  have k1 := h1
  have lt1 : ∀ x ∈ p1, x.block < W.heap.size := by obtain ⟨m, hm⟩ := k1; exact DataW.trod_lt m _ _ _ hm
  obtain ⟨z1, w1⟩ : ∃ zs, IsRow .u8 W a1 len1 cap1 zs := by
    obtain ⟨fuel, hf⟩ := h1
    rcases open_ints Try.underlying23 Try.underlying5 (by kernel_rfl) hf with ⟨hcs, _⟩ | ⟨x, l, c, zs, hcs, _, hl, hm, hz, _, hcell, hwz⟩
    · simp [Value.cells] at hcs
      obtain ⟨rfl, rfl, rfl⟩ := hcs
      exact ⟨[], .inl ⟨rfl, rfl, rfl, rfl⟩⟩
    · simp [Value.cells] at hcs
      obtain ⟨rfl, rfl, rfl⟩ := hcs
      exact ⟨zs, .inr ⟨_, rfl, hl, hm, by simpa using hz, hcell, hwz⟩⟩
  obtain ⟨a2, rfl, rfl, rfl, w2⟩ := open_int Try.underlying3 (hval 2 3 v2 rfl rfl) h2
  obtain ⟨a3, rfl, rfl, rfl, w3⟩ := open_int Try.underlying3 (hval 3 3 v3 rfl rfl) h3
  clear hA0 hval0
  refine (walk a0 len0 cap0 z0 a1 len1 cap1 z1 a2 a3 W w0 w1 w2 w3).mono fun e W' ⟨he, bel⟩ => ?_
  subst he
  exact ⟨_, rfl, _, _, _, [], _, [], hW', trodAll_mk1 (shut_bool Try.underlying4 _), (trodAll_cons_mk (Below.trod laidOut (by kernel_rfl) (of_decide_eq_true (by kernel_rfl)) k0 bel lt0) (trodAll_cons_mk (Below.trod laidOut (by kernel_rfl) (of_decide_eq_true (by kernel_rfl)) k1 bel lt1) (trodAll_cons_mk (shut_int Try.underlying3 w2) (trodAll_cons_mk (shut_int Try.underlying3 w3) trodAll_mk0)))), rfl, bel.frame _, fun h => by cases h⟩

theorem over : Rows.storeCutsRow.holds Try.pinned (OpenSpec.ofChange Rows.storeCutsSpec) :=
  OpenClaim.holds_of_wide 6 Try.f6 rfl rfl rfl rfl rfl rfl rfl ⟨rfl, rfl, rfl, rfl, rfl⟩ rfl rfl rfl rfl rfl (by kernel_rfl) Try.func6 (by kernel_rfl)
    (of_decide_eq_true (by kernel_rfl)) (by unfold Func.isWrapper; first | (rw [if_pos (by decide +kernel)]; kernel_rfl) | (rw [if_neg (by decide +kernel)]; exact ⟨rfl, rfl⟩))
    (fun os started H enc _ => lifted os started H enc)

/-- ████ THE STATEMENT ████ -/
theorem proved : Rows.StoreCutsSaid := over
#print axioms proved
end Go.Proofs.Ytfcagjnedaaadaa.storeCuts
