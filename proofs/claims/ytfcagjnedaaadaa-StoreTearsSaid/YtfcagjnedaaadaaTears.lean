/- Proved: StoreTears returns true for every input, and leaves its arguments as they were; no further condition.
   The frame around the walk was written by the guide's proof-skeleton program. -/
import Derived.Test.YtfcagjnedaaadaaRows
import Derived.Test.YtfcagjnedaaadaaWk
import Derived.WalkKit
import Derived.ProofKit
import Derived.OpenShut
import Derived.ShutString
import Derived.ChangeOld
import Derived.Below
namespace Go.Proofs.Ytfcagjnedaaadaa.storeTears
open Go.ChangeShapes Go.WideShapes Go.ChangeAt Go.RowKit
open Go.ChangeMaps (open_string shut_string)
set_option linter.unusedVariables false

theorem own : ownKnob Try.prog.godebug = none := by kernel_rfl
theorem laidOut : laidOutB Try.prog = true := by kernel_rfl

/-- WHAT THE WALK IS TOLD OF A SLICE OF INTEGERS THAT CAME IN: it is nil; or it leads to a row of 'cap' cells, the numbers 'zs' (the first 'len' are its elements, the rest its spare room), each fitting its kind. -/
def IsRow (k : IntKind) (w : World) (a : Option Addr) (len cap : Nat) (zs : List Int) : Prop :=
  (a = none ∧ len = 0 ∧ cap = 0 ∧ zs = []) ∨
  ∃ x, a = some x ∧ len ≤ cap ∧ cap ≤ maxLen ∧ zs.length = cap ∧ (∀ i, i < zs.length → w.cell? (x.add i) = some (.int k (zs.getD i 0))) ∧ ∀ n ∈ zs, (Lit.int k n).wf = true

/-! ### STEP 1: THE WALK: the Go text returns true, AND WRITES NOTHING THAT WAS THERE: 'Below w.heap.size w w'' (Derived/Below.lean: '.refl', '.alloc', '.drew', '.setCell' at a new block, '.trans'). Open each 'IsRow' by 'rcases' AHEAD of 'go_enter'; part every test ahead of the walk. -/
set_option maxHeartbeats 16000000 in
set_option maxRecDepth 100000 in
theorem walk (a0 : Option Addr) (len0 cap0 : Nat) (z0 : List Int) (a1 : Option Addr) (len1 cap1 : Nat) (z1 : List Int) (a2 : Int) (a3 : Int) (a4 : Bool) (w : World) (w0 : IsRow .u8 w a0 len0 cap0 z0) (w1 : IsRow .u8 w a1 len1 cap1 z1) (w2 : (Lit.int .i64 a2).wf = true) (w3 : (Lit.int .i64 a3).wf = true) :
    Calls Try.prog 5 #[.slice a0 len0 cap0, .slice a1 len1 cap1, .int .i64 a2, .int .i64 a3, .bool a4] w fun e w' => e = .returned (.bool true) ∧ Below w.heap.size w w' := by
  obtain ⟨za, hza, _⟩ := bytes_of_row w0
  obtain ⟨zb, hzb, _⟩ := bytes_of_row w1
  have HA := Lib.hid hza
  have HB := Lib.hid hzb
  clear hza hzb w0 w1 w2 w3 z0 z1
  obtain ⟨kp, hkp⟩ : ∃ i : Nat, (i : Int) = a2 % 100 := ⟨(a2 % 100).toNat, Int.toNat_of_nonneg (Int.emod_nonneg _ (by omega))⟩
  have kp1 : kp < 100 := by omega
  have HI := Lib.hid Try.info5
  go_enter Try.func5, Try.ntmps5
  go_wp2_with fail
  refine (cutb_any _ _ _ _ 40 HA.out (by omega)).mono ?_
  rintro e w1 ⟨va, rfl, hoa, hb1⟩
  obtain ⟨Aa, ca, rfl⟩ := own_slice' hoa
  have HOA := Lib.hid hoa
  have HB1 := Lib.hid hb1
  have HBB := Lib.hid (HB.out.below hb1)
  have s1 := hb1.size
  clear hoa hb1 HA HB
  go_wp2_with fail
  refine (cutb_any _ _ _ _ 40 HBB.out (by omega)).mono ?_
  rintro e w2 ⟨vb, rfl, hob, hb2⟩
  obtain ⟨Ab, cb, rfl⟩ := own_slice' hob
  have SA := Lib.hid ((Sl.of_own HOA.out (by rw [u8s_take]; exact u8s_one _)).below hb2)
  have SB := Lib.hid (Sl.of_own hob (by rw [u8s_take]; exact u8s_one _))
  have LA := Lib.hid (fun j hj => Nat.lt_of_lt_of_le (HOA.out.lt j hj).2 hb2.size)
  have LB := Lib.hid (fun j hj => (hob.lt j hj).2)
  have HB2 := Lib.hid (HB1.out.trans (hb2.mono s1))
  have s2 : w.heap.size ≤ w2.heap.size := HB2.out.size
  clear hob hb2 HOA HB1 HBB
  obtain ⟨xa, hxa⟩ : ∃ x, x = za.take 40 := ⟨_, rfl⟩
  obtain ⟨xb, hxb⟩ : ∃ x, x = zb.take 40 := ⟨_, rfl⟩
  obtain ⟨ma, hma⟩ : ∃ m, m = min len0 40 := ⟨_, rfl⟩
  obtain ⟨mb, hmb⟩ : ∃ m, m = min len1 40 := ⟨_, rfl⟩
  have ma4 : ma ≤ 40 := by omega
  have mb4 : mb ≤ 40 := by omega
  rw [u8s_take, ← hxa, ← hma] at SA
  rw [u8s_take, ← hxb, ← hmb] at SB
  rw [← hma] at LA
  rw [← hmb] at LB
  have la := sl_len SA.out
  have lb := sl_len SB.out
  rw [← hma, ← hmb]
  clear hxa hxb hma hmb
  go_wp2_with fail
  refine (within_any a3 1000 _ (by omega) (by omega)).mono ?_
  rintro e _ ⟨rfl, rfl⟩
  obtain ⟨n, hn⟩ : ∃ n, n = 1 + a3 % 1000 := ⟨_, rfl⟩
  have n1 : 1 ≤ n := by have := Int.emod_nonneg a3 (b := 1000) (by omega); omega
  have n2 : n ≤ 1000 := by have := Int.emod_lt_of_pos a3 (b := 1000) (by omega); omega
  have nw : (Lit.int .i64 n).wf = true := WalkArith.wf_i64 (by omega)
  have iwn : IntKind.i64.wrap (1 + a3 % 1000) = n := by rw [← hn]; exact IntWalk.i64_in _ ⟨by omega, by omega⟩
  clear hn
  go_wp2_with fail
  refine (new_any _).mono ?_
  rintro e w3 ⟨g, b, rfl, hg, hb, hs, hb3⟩
  have HS3 := Lib.hid hs
  have HB3 := Lib.hid (HB2.out.trans (hb3.mono s2))
  have SA3 := Lib.hid (SA.out.below hb3)
  have SB3 := Lib.hid (SB.out.below hb3)
  have s3 : w.heap.size ≤ w3.heap.size := HB3.out.size
  have hgw : w.heap.size ≤ g := Nat.le_trans s2 hg
  have hbw : w.heap.size ≤ b := Nat.le_trans s2 hb
  have na : Hid (∀ j, (Value.slice Aa ma ca).ownBlock = some j → j ≠ g) := Lib.hid (fun j hj e => by have := LA.out j hj; omega)
  have nb : Hid (∀ j, (Value.slice Ab mb cb).ownBlock = some j → j ≠ g) := Lib.hid (fun j hj e => by have := LB.out j hj; omega)
  have na2 : Hid (∀ j, (Value.slice Aa ma ca).ownBlock = some j → ¬ (j = g ∨ j = b)) := Lib.hid (fun j hj e => by have := LA.out j hj; omega)
  have nb2 : Hid (∀ j, (Value.slice Ab mb cb).ownBlock = some j → ¬ (j = g ∨ j = b)) := Lib.hid (fun j hj e => by have := LB.out j hj; omega)
  have ngb : Hid (∀ j, j = g ∨ j = b → w.heap.size ≤ j) := Lib.hid (fun j hj => by omega)
  clear hs hb3 HB2 SA SB
  obtain ⟨M, hM⟩ : ∃ M, ma + mb = M := ⟨_, rfl⟩
  by_cases hsy : a4 = true
  · subst hsy
    go_wp2_with fail
    refine (app_any g b _ _ _ (plainS _) n _ HS3.out nw Aa ma ca xa SA3.out (by simp [maxLen]) (by omega) (by omega) na.out 0 _ (app_new n xa n1)).mono ?_
    rintro e w4 ⟨rfl, hs4, hf4⟩
    have HS4 := Lib.hid hs4
    have SA4 := Lib.hid (SA3.out.frm hf4 na2.out)
    have SB4 := Lib.hid (SB3.out.frm hf4 nb2.out)
    have HB4 := Lib.hid (Frm.below HB3.out hf4 s3 ngb.out)
    have s4 : w.heap.size ≤ w4.heap.size := HB4.out.size
    clear hs4 hf4 HS3 SA3 SB3 HB3
    go_wp2_with fail

    refine (sync_any g b _ _ _ _ n _ HS4.out nw (by simp [maxLen]) 0 _ (sync_one n xa 0 false n1)).mono ?_
    rintro e w5 ⟨rfl, hs5, hf5⟩
    have HS5 := Lib.hid hs5
    have SA5 := Lib.hid (SA4.out.frm hf5 na2.out)
    have SB5 := Lib.hid (SB4.out.frm hf5 nb2.out)
    have HB5 := Lib.hid (Frm.below HB4.out hf5 s4 ngb.out)
    have s5 : w.heap.size ≤ w5.heap.size := HB5.out.size
    clear hs5 hf5 HS4 SA4 SB4 HB4
    go_wp2_with fail
    refine (app_any g b _ _ _ _ n _ HS5.out nw Ab mb cb xb SB5.out (by simp [maxLen]) (by omega) (by omega) nb.out 0 _ (app_one n xa xb _ _ n1)).mono ?_
    rintro e w6 ⟨rfl, hs6, hf6⟩
    have HS6 := Lib.hid hs6
    have SA6 := Lib.hid (SA5.out.frm hf6 na2.out)
    have SB6 := Lib.hid (SB5.out.frm hf6 nb2.out)
    have HB6 := Lib.hid (Frm.below HB5.out hf6 s5 ngb.out)
    have s6 : w.heap.size ≤ w6.heap.size := HB6.out.size
    clear hs6 hf6 HS5 SA5 SB5 HB5
    go_wp2_with fail
    refine (within_any a2 100 _ (by omega) (by omega)).mono ?_
    rintro e _ ⟨rfl, rfl⟩
    rw [← hkp]
    clear hkp
    go_wp2_with fail
    refine (copy_any _ _ _ _ SA6.out (by omega)).mono ?_
    rintro e w7 ⟨vc, rfl, hoc, hb7⟩
    have HOC := Lib.hid (own_base hoc s6)
    have SB7 := Lib.hid (SB6.out.below hb7)
    have HS7 := Lib.hid (HS6.out.lt.below hb7)
    have HB7 := Lib.hid (HB6.out.trans (hb7.mono s6))
    have s7 : w.heap.size ≤ w7.heap.size := HB7.out.size
    have s67 : w6.heap.size ≤ w7.heap.size := hb7.size
    have HOC2 := Lib.hid (fun j hj => (hoc.lt j hj).1)
    have hg6 := HS6.out.glt
    have hb6' := HS6.out.blt
    clear hoc hb7 SA6 SB6 HS6 HB6
    by_cases hm1 : (M : Int) < (kp : Int)
    · have hm2 : (mb : Int) < (kp : Int) := by omega
      obtain ⟨K, hK, hKc, hKM⟩ : ∃ K : Nat, ma + mb = K ∧ crn kp (xa ++ xb, (xa.length : Int), true) = K ∧ K ≤ M := ⟨_, rfl, by unfold crn mn mx; simp only [List.length_append, la, lb]; split <;> split <;> omega, by omega⟩
      have hk2 : (ma : Int) + (mb : Int) = (K : Int) := by omega
      have hmin : min (kp : Int) (mb : Int) = (mb : Int) := by omega
      have HKC := Lib.hid hKc
      have HKM := Lib.hid hKM
      clear hKc hKM
      have k0 : (0 : Int) ≤ (K : Int) := by omega
      go_wp2_with (at_builtin; refine wp_app w.heap.size rfl _ _ 23 5 (.int .u8 0) 1 1 rfl Try.underlying23 HI.out rfl (by omega) (by omega) rfl rfl HOC.out SB7.out (by omega) s7 ?_; intro v8 w8 hown hfr hat; rw [hM, ← u8s_append] at hown; obtain ⟨A8, c8, rfl⟩ := own_slice' hown)
      have HB8 := Lib.hid (Frm.below HB7.out hfr s7 (fun j hj => (HOC.out.lt j hj).1))
      have hv8 : ∀ j, (Value.slice A8 M c8).ownBlock = some j → w6.heap.size ≤ j := fun j hj => by
        rcases hat with h | h
        · rw [h] at hj; exact HOC2.out j hj
        · rw [h] at hj; injection hj with hj; omega
      have hfr2 : ∀ j, vc.ownBlock = some j → ¬ j = g ∧ ¬ j = b := fun j hj => by have := HOC2.out j hj; omega
      have HS8 := Lib.hid (HS7.out.frm hfr (fun j hj e => by have := hj.2; have := HOC2.out j e; omega) (fun e => (hfr2 g e).1 rfl) (fun e => (hfr2 b e).2 rfl))
      have HO8 := Lib.hid hown
      have HV8 := Lib.hid hv8
      have s8 : w.heap.size ≤ w8.heap.size := HB8.out.size
      clear hown hfr hat HOC SB7 HB7 HS7 hv8 hfr2
      have kcn : K ≤ c8 := by
        obtain ⟨_, _, e, h1, _⟩ := Sl.of_own HO8.out (u8s_one _)
        injection e with _ _ e3
        subst e3
        have := HKM.out
        omega
      have kc : (K : Int) ≤ (c8 : Int) := by omega
      refine (crash_any g b _ _ _ _ kp _ HS8.out (by omega) (by simp [maxLen])).mono ?_
      rintro e w9 ⟨rfl, hs9, hf9⟩
      rw [crash_one] at hs9
      simp only [Option.bind_some] at hs9
      have HS9 := Lib.hid hs9
      have HO9 := Lib.hid (own_frm HO8.out hf9 (fun j hj h => by have := HV8.out j hj; omega))
      have HB9 := Lib.hid (Frm.below HB8.out hf9 s8 ngb.out)
      have s9 : w.heap.size ≤ w9.heap.size := HB9.out.size
      clear hs9 hf9 HS8 HO8 HB8
      go_wp2_with fail
      refine (read_any g b _ _ _ _ n nw _ HS9.out (by omega)).mono ?_
      rintro e wa ⟨vx, rfl, hox, hba⟩
      rw [show (plainS (one n (crash1 kp (xa ++ xb, (xa.length : Int), true)))).f = one n (crash1 kp (xa ++ xb, (xa.length : Int), true)) from rfl, crash_bytes, HKC.out] at hox
      rw [show (plainS (one n (crash1 kp (xa ++ xb, (xa.length : Int), true)))).f = one n (crash1 kp (xa ++ xb, (xa.length : Int), true)) from rfl, one_same]
      have hxl : ((xa ++ xb).take K).length = K := by rw [List.length_take, List.length_append, la, lb]; omega
      simp only [hxl] at hox
      obtain ⟨is, his⟩ : ∃ is, (crash1 kp (xa ++ xb, (xa.length : Int), true)).isSome = is := ⟨_, rfl⟩
      have hisv : is = true := by rw [← his]; unfold crash1; rw [HKC.out]; simp
      rw [his]
      obtain ⟨Ax, cx, rfl⟩ := own_slice' hox
      have HX := Lib.hid hox
      have HOa := Lib.hid (own_frm HO9.out (Frm.of_below (S := fun _ => False) hba) (fun _ _ h => h))
      have HSa := Lib.hid (HS9.out.below hba)
      have HBa := Lib.hid (HB9.out.trans (hba.mono s9))
      have sa : w.heap.size ≤ wa.heap.size := HBa.out.size
      have hgb9 := HS9.out.glt
      have hbb9 := HS9.out.blt
      clear hox hba HO9 HS9 HB9 his
      go_wp2_with fail
      refine (crash_any g b _ _ _ _ 0 _ HSa.out (by omega) (by simp [maxLen])).mono ?_
      rintro e wb ⟨rfl, hsb, hfb⟩
      rw [crash_one, crash_again kp (xa ++ xb, (xa.length : Int), true) (by simp) (by simp only [List.length_append]; omega)] at hsb
      have HSb := Lib.hid hsb
      have HXb := Lib.hid (Sl.of_own (own_frm HX.out hfb (fun j hj h => by have := (HX.out.lt j hj).1; omega)) (u8s_one _))
      have HOb := Lib.hid (own_frm HOa.out hfb (fun j hj h => by have := HV8.out j hj; omega))
      have HBb := Lib.hid (Frm.below HBa.out hfb sa ngb.out)
      have sb : w.heap.size ≤ wb.heap.size := HBb.out.size
      clear hsb hfb HX HOa HBa HSa
      go_wp2_with fail
      refine (read_any g b _ _ _ _ n nw _ HSb.out (by omega)).mono ?_
      rintro e wc ⟨vy, rfl, hoy, hbc⟩
      rw [show (plainS (one n (crash1 kp (xa ++ xb, (xa.length : Int), true)))).f = one n (crash1 kp (xa ++ xb, (xa.length : Int), true)) from rfl, crash_bytes, HKC.out] at hoy
      rw [show (plainS (one n (crash1 kp (xa ++ xb, (xa.length : Int), true)))).f = one n (crash1 kp (xa ++ xb, (xa.length : Int), true)) from rfl, one_same]
      simp only [hxl] at hoy
      obtain ⟨is2, his2⟩ : ∃ is2, (crash1 kp (xa ++ xb, (xa.length : Int), true)).isSome = is2 := ⟨_, rfl⟩
      have hisv2 : is2 = true := by rw [← his2]; unfold crash1; rw [HKC.out]; simp
      rw [his2]
      obtain ⟨Ay, cy, rfl⟩ := own_slice' hoy
      have HYc := Lib.hid (Sl.of_own hoy (u8s_one _))
      have HXc := Lib.hid (HXb.out.below hbc)
      have HOc := Lib.hid (((Sl.of_own HOb.out (u8s_one _)).take HKM.out).below hbc)
      have HSc := Lib.hid (HSb.out.below hbc)
      have HBc := Lib.hid (HBb.out.trans (hbc.mono sb))
      clear hoy hbc HXb HOb HSb HBb his2
      rw [u8s_take] at HOc
      subst hisv
      subst hisv2
      go_wp2_with fail
      refine (sameb_any _ _ _ K ((xa ++ xb).take K) HXc.out HOc.out).mono ?_
      rintro e _ ⟨rfl, m1, rfl⟩
      go_wp2_with fail
      refine (sameb_any _ _ _ K ((xa ++ xb).take K) (HXc.out.drewN m1) (HYc.out.drewN m1)).mono ?_
      rintro e _ ⟨rfl, m2, rfl⟩
      have HSd := Lib.hid (HSc.out.frm ((Frm.refl (fun _ => False) wc).drewN (m1 + m2)) (fun _ _ h => h) (fun h => h) (fun h => h))
      clear HSc
      go_wp2_with fail
      refine (dead_any g b _ _ _ _ _ HSd.out).mono ?_
      rintro e _ ⟨rfl, rfl⟩
      go_wp2_with fail
      refine (wakes_any _).mono ?_
      rintro e wd ⟨rfl, hbd⟩
      have HBd := Lib.hid ((HBc.out.drewN'' (m1 + m2)).trans (hbd.mono HBc.out.size))
      clear hbd
      go_wp2_with fail
      go_ret
      exact ⟨rfl, HBd.out⟩
    · by_cases hm2 : (mb : Int) < (kp : Int)
      · obtain ⟨K, hK, hKc, hKM⟩ : ∃ K : Nat, ma + mb = K ∧ crn kp (xa ++ xb, (xa.length : Int), true) = K ∧ K ≤ M := ⟨_, rfl, by unfold crn mn mx; simp only [List.length_append, la, lb]; split <;> split <;> omega, by omega⟩
        have hk2 : (ma : Int) + (mb : Int) = (K : Int) := by omega
        have hmin : min (kp : Int) (mb : Int) = (mb : Int) := by omega
        have HKC := Lib.hid hKc
        have HKM := Lib.hid hKM
        clear hKc hKM
        have k0 : (0 : Int) ≤ (K : Int) := by omega
        go_wp2_with (at_builtin; refine wp_app w.heap.size rfl _ _ 23 5 (.int .u8 0) 1 1 rfl Try.underlying23 HI.out rfl (by omega) (by omega) rfl rfl HOC.out SB7.out (by omega) s7 ?_; intro v8 w8 hown hfr hat; rw [hM, ← u8s_append] at hown; obtain ⟨A8, c8, rfl⟩ := own_slice' hown)
        have HB8 := Lib.hid (Frm.below HB7.out hfr s7 (fun j hj => (HOC.out.lt j hj).1))
        have hv8 : ∀ j, (Value.slice A8 M c8).ownBlock = some j → w6.heap.size ≤ j := fun j hj => by
          rcases hat with h | h
          · rw [h] at hj; exact HOC2.out j hj
          · rw [h] at hj; injection hj with hj; omega
        have hfr2 : ∀ j, vc.ownBlock = some j → ¬ j = g ∧ ¬ j = b := fun j hj => by have := HOC2.out j hj; omega
        have HS8 := Lib.hid (HS7.out.frm hfr (fun j hj e => by have := hj.2; have := HOC2.out j e; omega) (fun e => (hfr2 g e).1 rfl) (fun e => (hfr2 b e).2 rfl))
        have HO8 := Lib.hid hown
        have HV8 := Lib.hid hv8
        have s8 : w.heap.size ≤ w8.heap.size := HB8.out.size
        clear hown hfr hat HOC SB7 HB7 HS7 hv8 hfr2
        have kcn : K ≤ c8 := by
          obtain ⟨_, _, e, h1, _⟩ := Sl.of_own HO8.out (u8s_one _)
          injection e with _ _ e3
          subst e3
          have := HKM.out
          omega
        have kc : (K : Int) ≤ (c8 : Int) := by omega
        refine (crash_any g b _ _ _ _ kp _ HS8.out (by omega) (by simp [maxLen])).mono ?_
        rintro e w9 ⟨rfl, hs9, hf9⟩
        rw [crash_one] at hs9
        simp only [Option.bind_some] at hs9
        have HS9 := Lib.hid hs9
        have HO9 := Lib.hid (own_frm HO8.out hf9 (fun j hj h => by have := HV8.out j hj; omega))
        have HB9 := Lib.hid (Frm.below HB8.out hf9 s8 ngb.out)
        have s9 : w.heap.size ≤ w9.heap.size := HB9.out.size
        clear hs9 hf9 HS8 HO8 HB8
        go_wp2_with fail
        refine (read_any g b _ _ _ _ n nw _ HS9.out (by omega)).mono ?_
        rintro e wa ⟨vx, rfl, hox, hba⟩
        rw [show (plainS (one n (crash1 kp (xa ++ xb, (xa.length : Int), true)))).f = one n (crash1 kp (xa ++ xb, (xa.length : Int), true)) from rfl, crash_bytes, HKC.out] at hox
        rw [show (plainS (one n (crash1 kp (xa ++ xb, (xa.length : Int), true)))).f = one n (crash1 kp (xa ++ xb, (xa.length : Int), true)) from rfl, one_same]
        have hxl : ((xa ++ xb).take K).length = K := by rw [List.length_take, List.length_append, la, lb]; omega
        simp only [hxl] at hox
        obtain ⟨is, his⟩ : ∃ is, (crash1 kp (xa ++ xb, (xa.length : Int), true)).isSome = is := ⟨_, rfl⟩
        have hisv : is = true := by rw [← his]; unfold crash1; rw [HKC.out]; simp
        rw [his]
        obtain ⟨Ax, cx, rfl⟩ := own_slice' hox
        have HX := Lib.hid hox
        have HOa := Lib.hid (own_frm HO9.out (Frm.of_below (S := fun _ => False) hba) (fun _ _ h => h))
        have HSa := Lib.hid (HS9.out.below hba)
        have HBa := Lib.hid (HB9.out.trans (hba.mono s9))
        have sa : w.heap.size ≤ wa.heap.size := HBa.out.size
        have hgb9 := HS9.out.glt
        have hbb9 := HS9.out.blt
        clear hox hba HO9 HS9 HB9 his
        go_wp2_with fail
        refine (crash_any g b _ _ _ _ 0 _ HSa.out (by omega) (by simp [maxLen])).mono ?_
        rintro e wb ⟨rfl, hsb, hfb⟩
        rw [crash_one, crash_again kp (xa ++ xb, (xa.length : Int), true) (by simp) (by simp only [List.length_append]; omega)] at hsb
        have HSb := Lib.hid hsb
        have HXb := Lib.hid (Sl.of_own (own_frm HX.out hfb (fun j hj h => by have := (HX.out.lt j hj).1; omega)) (u8s_one _))
        have HOb := Lib.hid (own_frm HOa.out hfb (fun j hj h => by have := HV8.out j hj; omega))
        have HBb := Lib.hid (Frm.below HBa.out hfb sa ngb.out)
        have sb : w.heap.size ≤ wb.heap.size := HBb.out.size
        clear hsb hfb HX HOa HBa HSa
        go_wp2_with fail
        refine (read_any g b _ _ _ _ n nw _ HSb.out (by omega)).mono ?_
        rintro e wc ⟨vy, rfl, hoy, hbc⟩
        rw [show (plainS (one n (crash1 kp (xa ++ xb, (xa.length : Int), true)))).f = one n (crash1 kp (xa ++ xb, (xa.length : Int), true)) from rfl, crash_bytes, HKC.out] at hoy
        rw [show (plainS (one n (crash1 kp (xa ++ xb, (xa.length : Int), true)))).f = one n (crash1 kp (xa ++ xb, (xa.length : Int), true)) from rfl, one_same]
        simp only [hxl] at hoy
        obtain ⟨is2, his2⟩ : ∃ is2, (crash1 kp (xa ++ xb, (xa.length : Int), true)).isSome = is2 := ⟨_, rfl⟩
        have hisv2 : is2 = true := by rw [← his2]; unfold crash1; rw [HKC.out]; simp
        rw [his2]
        obtain ⟨Ay, cy, rfl⟩ := own_slice' hoy
        have HYc := Lib.hid (Sl.of_own hoy (u8s_one _))
        have HXc := Lib.hid (HXb.out.below hbc)
        have HOc := Lib.hid (((Sl.of_own HOb.out (u8s_one _)).take HKM.out).below hbc)
        have HSc := Lib.hid (HSb.out.below hbc)
        have HBc := Lib.hid (HBb.out.trans (hbc.mono sb))
        clear hoy hbc HXb HOb HSb HBb his2
        rw [u8s_take] at HOc
        subst hisv
        subst hisv2
        go_wp2_with fail
        refine (sameb_any _ _ _ K ((xa ++ xb).take K) HXc.out HOc.out).mono ?_
        rintro e _ ⟨rfl, m1, rfl⟩
        go_wp2_with fail
        refine (sameb_any _ _ _ K ((xa ++ xb).take K) (HXc.out.drewN m1) (HYc.out.drewN m1)).mono ?_
        rintro e _ ⟨rfl, m2, rfl⟩
        have HSd := Lib.hid (HSc.out.frm ((Frm.refl (fun _ => False) wc).drewN (m1 + m2)) (fun _ _ h => h) (fun h => h) (fun h => h))
        clear HSc
        go_wp2_with fail
        refine (dead_any g b _ _ _ _ _ HSd.out).mono ?_
        rintro e _ ⟨rfl, rfl⟩
        go_wp2_with fail
        refine (wakes_any _).mono ?_
        rintro e wd ⟨rfl, hbd⟩
        have HBd := Lib.hid ((HBc.out.drewN'' (m1 + m2)).trans (hbd.mono HBc.out.size))
        clear hbd
        go_wp2_with fail
        go_ret
        exact ⟨rfl, HBd.out⟩
      · obtain ⟨K, hK, hKc, hKM⟩ : ∃ K : Nat, ma + kp = K ∧ crn kp (xa ++ xb, (xa.length : Int), true) = K ∧ K ≤ M := ⟨_, rfl, by unfold crn mn mx; simp only [List.length_append, la, lb]; split <;> split <;> omega, by omega⟩
        have hk2 : (ma : Int) + (kp : Int) = (K : Int) := by omega
        have hmin : min (kp : Int) (mb : Int) = (kp : Int) := by omega
        have HKC := Lib.hid hKc
        have HKM := Lib.hid hKM
        clear hKc hKM
        have k0 : (0 : Int) ≤ (K : Int) := by omega
        go_wp2_with (at_builtin; refine wp_app w.heap.size rfl _ _ 23 5 (.int .u8 0) 1 1 rfl Try.underlying23 HI.out rfl (by omega) (by omega) rfl rfl HOC.out SB7.out (by omega) s7 ?_; intro v8 w8 hown hfr hat; rw [hM, ← u8s_append] at hown; obtain ⟨A8, c8, rfl⟩ := own_slice' hown)
        have HB8 := Lib.hid (Frm.below HB7.out hfr s7 (fun j hj => (HOC.out.lt j hj).1))
        have hv8 : ∀ j, (Value.slice A8 M c8).ownBlock = some j → w6.heap.size ≤ j := fun j hj => by
          rcases hat with h | h
          · rw [h] at hj; exact HOC2.out j hj
          · rw [h] at hj; injection hj with hj; omega
        have hfr2 : ∀ j, vc.ownBlock = some j → ¬ j = g ∧ ¬ j = b := fun j hj => by have := HOC2.out j hj; omega
        have HS8 := Lib.hid (HS7.out.frm hfr (fun j hj e => by have := hj.2; have := HOC2.out j e; omega) (fun e => (hfr2 g e).1 rfl) (fun e => (hfr2 b e).2 rfl))
        have HO8 := Lib.hid hown
        have HV8 := Lib.hid hv8
        have s8 : w.heap.size ≤ w8.heap.size := HB8.out.size
        clear hown hfr hat HOC SB7 HB7 HS7 hv8 hfr2
        have kcn : K ≤ c8 := by
          obtain ⟨_, _, e, h1, _⟩ := Sl.of_own HO8.out (u8s_one _)
          injection e with _ _ e3
          subst e3
          have := HKM.out
          omega
        have kc : (K : Int) ≤ (c8 : Int) := by omega
        refine (crash_any g b _ _ _ _ kp _ HS8.out (by omega) (by simp [maxLen])).mono ?_
        rintro e w9 ⟨rfl, hs9, hf9⟩
        rw [crash_one] at hs9
        simp only [Option.bind_some] at hs9
        have HS9 := Lib.hid hs9
        have HO9 := Lib.hid (own_frm HO8.out hf9 (fun j hj h => by have := HV8.out j hj; omega))
        have HB9 := Lib.hid (Frm.below HB8.out hf9 s8 ngb.out)
        have s9 : w.heap.size ≤ w9.heap.size := HB9.out.size
        clear hs9 hf9 HS8 HO8 HB8
        go_wp2_with fail
        refine (read_any g b _ _ _ _ n nw _ HS9.out (by omega)).mono ?_
        rintro e wa ⟨vx, rfl, hox, hba⟩
        rw [show (plainS (one n (crash1 kp (xa ++ xb, (xa.length : Int), true)))).f = one n (crash1 kp (xa ++ xb, (xa.length : Int), true)) from rfl, crash_bytes, HKC.out] at hox
        rw [show (plainS (one n (crash1 kp (xa ++ xb, (xa.length : Int), true)))).f = one n (crash1 kp (xa ++ xb, (xa.length : Int), true)) from rfl, one_same]
        have hxl : ((xa ++ xb).take K).length = K := by rw [List.length_take, List.length_append, la, lb]; omega
        simp only [hxl] at hox
        obtain ⟨is, his⟩ : ∃ is, (crash1 kp (xa ++ xb, (xa.length : Int), true)).isSome = is := ⟨_, rfl⟩
        have hisv : is = true := by rw [← his]; unfold crash1; rw [HKC.out]; simp
        rw [his]
        obtain ⟨Ax, cx, rfl⟩ := own_slice' hox
        have HX := Lib.hid hox
        have HOa := Lib.hid (own_frm HO9.out (Frm.of_below (S := fun _ => False) hba) (fun _ _ h => h))
        have HSa := Lib.hid (HS9.out.below hba)
        have HBa := Lib.hid (HB9.out.trans (hba.mono s9))
        have sa : w.heap.size ≤ wa.heap.size := HBa.out.size
        have hgb9 := HS9.out.glt
        have hbb9 := HS9.out.blt
        clear hox hba HO9 HS9 HB9 his
        go_wp2_with fail
        refine (crash_any g b _ _ _ _ 0 _ HSa.out (by omega) (by simp [maxLen])).mono ?_
        rintro e wb ⟨rfl, hsb, hfb⟩
        rw [crash_one, crash_again kp (xa ++ xb, (xa.length : Int), true) (by simp) (by simp only [List.length_append]; omega)] at hsb
        have HSb := Lib.hid hsb
        have HXb := Lib.hid (Sl.of_own (own_frm HX.out hfb (fun j hj h => by have := (HX.out.lt j hj).1; omega)) (u8s_one _))
        have HOb := Lib.hid (own_frm HOa.out hfb (fun j hj h => by have := HV8.out j hj; omega))
        have HBb := Lib.hid (Frm.below HBa.out hfb sa ngb.out)
        have sb : w.heap.size ≤ wb.heap.size := HBb.out.size
        clear hsb hfb HX HOa HBa HSa
        go_wp2_with fail
        refine (read_any g b _ _ _ _ n nw _ HSb.out (by omega)).mono ?_
        rintro e wc ⟨vy, rfl, hoy, hbc⟩
        rw [show (plainS (one n (crash1 kp (xa ++ xb, (xa.length : Int), true)))).f = one n (crash1 kp (xa ++ xb, (xa.length : Int), true)) from rfl, crash_bytes, HKC.out] at hoy
        rw [show (plainS (one n (crash1 kp (xa ++ xb, (xa.length : Int), true)))).f = one n (crash1 kp (xa ++ xb, (xa.length : Int), true)) from rfl, one_same]
        simp only [hxl] at hoy
        obtain ⟨is2, his2⟩ : ∃ is2, (crash1 kp (xa ++ xb, (xa.length : Int), true)).isSome = is2 := ⟨_, rfl⟩
        have hisv2 : is2 = true := by rw [← his2]; unfold crash1; rw [HKC.out]; simp
        rw [his2]
        obtain ⟨Ay, cy, rfl⟩ := own_slice' hoy
        have HYc := Lib.hid (Sl.of_own hoy (u8s_one _))
        have HXc := Lib.hid (HXb.out.below hbc)
        have HOc := Lib.hid (((Sl.of_own HOb.out (u8s_one _)).take HKM.out).below hbc)
        have HSc := Lib.hid (HSb.out.below hbc)
        have HBc := Lib.hid (HBb.out.trans (hbc.mono sb))
        clear hoy hbc HXb HOb HSb HBb his2
        rw [u8s_take] at HOc
        subst hisv
        subst hisv2
        go_wp2_with fail
        refine (sameb_any _ _ _ K ((xa ++ xb).take K) HXc.out HOc.out).mono ?_
        rintro e _ ⟨rfl, m1, rfl⟩
        go_wp2_with fail
        refine (sameb_any _ _ _ K ((xa ++ xb).take K) (HXc.out.drewN m1) (HYc.out.drewN m1)).mono ?_
        rintro e _ ⟨rfl, m2, rfl⟩
        have HSd := Lib.hid (HSc.out.frm ((Frm.refl (fun _ => False) wc).drewN (m1 + m2)) (fun _ _ h => h) (fun h => h) (fun h => h))
        clear HSc
        go_wp2_with fail
        refine (dead_any g b _ _ _ _ _ HSd.out).mono ?_
        rintro e _ ⟨rfl, rfl⟩
        go_wp2_with fail
        refine (wakes_any _).mono ?_
        rintro e wd ⟨rfl, hbd⟩
        have HBd := Lib.hid ((HBc.out.drewN'' (m1 + m2)).trans (hbd.mono HBc.out.size))
        clear hbd
        go_wp2_with fail
        go_ret
        exact ⟨rfl, HBd.out⟩
  · obtain rfl : a4 = false := by simpa using hsy
    go_wp2_with fail
    refine (app_any g b _ _ _ (plainS _) n _ HS3.out nw Aa ma ca xa SA3.out (by simp [maxLen]) (by omega) (by omega) na.out 0 _ (app_new n xa n1)).mono ?_
    rintro e w4 ⟨rfl, hs4, hf4⟩
    have HS4 := Lib.hid hs4
    have SA4 := Lib.hid (SA3.out.frm hf4 na2.out)
    have SB4 := Lib.hid (SB3.out.frm hf4 nb2.out)
    have HB4 := Lib.hid (Frm.below HB3.out hf4 s3 ngb.out)
    have s4 : w.heap.size ≤ w4.heap.size := HB4.out.size
    clear hs4 hf4 HS3 SA3 SB3 HB3
    go_wp2_with fail

    refine (app_any g b _ _ _ _ n _ HS4.out nw Ab mb cb xb SB4.out (by simp [maxLen]) (by omega) (by omega) nb.out 0 _ (app_one n xa xb _ _ n1)).mono ?_
    rintro e w6 ⟨rfl, hs6, hf6⟩
    have HS6 := Lib.hid hs6
    have SA6 := Lib.hid (SA4.out.frm hf6 na2.out)
    have SB6 := Lib.hid (SB4.out.frm hf6 nb2.out)
    have HB6 := Lib.hid (Frm.below HB4.out hf6 s4 ngb.out)
    have s6 : w.heap.size ≤ w6.heap.size := HB6.out.size
    clear hs6 hf6 HS4 SA4 SB4 HB4
    go_wp2_with fail
    refine (within_any a2 100 _ (by omega) (by omega)).mono ?_
    rintro e _ ⟨rfl, rfl⟩
    rw [← hkp]
    clear hkp
    go_wp2_with fail
    refine (copy_any _ _ _ _ SA6.out (by omega)).mono ?_
    rintro e w7 ⟨vc, rfl, hoc, hb7⟩
    have HOC := Lib.hid (own_base hoc s6)
    have SB7 := Lib.hid (SB6.out.below hb7)
    have HS7 := Lib.hid (HS6.out.lt.below hb7)
    have HB7 := Lib.hid (HB6.out.trans (hb7.mono s6))
    have s7 : w.heap.size ≤ w7.heap.size := HB7.out.size
    have s67 : w6.heap.size ≤ w7.heap.size := hb7.size
    have HOC2 := Lib.hid (fun j hj => (hoc.lt j hj).1)
    have hg6 := HS6.out.glt
    have hb6' := HS6.out.blt
    clear hoc hb7 SA6 SB6 HS6 HB6
    by_cases hm1 : (M : Int) < (kp : Int)
    · obtain ⟨hKc, hKM⟩ : crn kp (xa ++ xb, 0, false) = M ∧ M ≤ M := ⟨by unfold crn mn mx; simp only [List.length_append, la, lb]; split <;> split <;> omega, by omega⟩
      have hmin : min (kp : Int) (M : Int) = (M : Int) := by omega
      have HKC := Lib.hid hKc
      have HKM := Lib.hid hKM
      clear hKc hKM
      have k0 : (0 : Int) ≤ (M : Int) := by omega
      go_wp2_with (at_builtin; refine wp_app w.heap.size rfl _ _ 23 5 (.int .u8 0) 1 1 rfl Try.underlying23 HI.out rfl (by omega) (by omega) rfl rfl HOC.out SB7.out (by omega) s7 ?_; intro v8 w8 hown hfr hat; rw [hM, ← u8s_append] at hown; obtain ⟨A8, c8, rfl⟩ := own_slice' hown)
      have HB8 := Lib.hid (Frm.below HB7.out hfr s7 (fun j hj => (HOC.out.lt j hj).1))
      have hv8 : ∀ j, (Value.slice A8 M c8).ownBlock = some j → w6.heap.size ≤ j := fun j hj => by
        rcases hat with h | h
        · rw [h] at hj; exact HOC2.out j hj
        · rw [h] at hj; injection hj with hj; omega
      have hfr2 : ∀ j, vc.ownBlock = some j → ¬ j = g ∧ ¬ j = b := fun j hj => by have := HOC2.out j hj; omega
      have HS8 := Lib.hid (HS7.out.frm hfr (fun j hj e => by have := hj.2; have := HOC2.out j e; omega) (fun e => (hfr2 g e).1 rfl) (fun e => (hfr2 b e).2 rfl))
      have HO8 := Lib.hid hown
      have HV8 := Lib.hid hv8
      have s8 : w.heap.size ≤ w8.heap.size := HB8.out.size
      clear hown hfr hat HOC SB7 HB7 HS7 hv8 hfr2
      have kcn : M ≤ c8 := by
        obtain ⟨_, _, e, h1, _⟩ := Sl.of_own HO8.out (u8s_one _)
        injection e with _ _ e3
        subst e3
        have := HKM.out
        omega
      have kc : (M : Int) ≤ (c8 : Int) := by omega
      refine (crash_any g b _ _ _ _ kp _ HS8.out (by omega) (by simp [maxLen])).mono ?_
      rintro e w9 ⟨rfl, hs9, hf9⟩
      rw [crash_one] at hs9
      simp only [Option.bind_some] at hs9
      have HS9 := Lib.hid hs9
      have HO9 := Lib.hid (own_frm HO8.out hf9 (fun j hj h => by have := HV8.out j hj; omega))
      have HB9 := Lib.hid (Frm.below HB8.out hf9 s8 ngb.out)
      have s9 : w.heap.size ≤ w9.heap.size := HB9.out.size
      clear hs9 hf9 HS8 HO8 HB8
      go_wp2_with fail
      refine (read_any g b _ _ _ _ n nw _ HS9.out (by omega)).mono ?_
      rintro e wa ⟨vx, rfl, hox, hba⟩
      rw [show (plainS (one n (crash1 kp (xa ++ xb, 0, false)))).f = one n (crash1 kp (xa ++ xb, 0, false)) from rfl, crash_bytes, HKC.out] at hox
      rw [show (plainS (one n (crash1 kp (xa ++ xb, 0, false)))).f = one n (crash1 kp (xa ++ xb, 0, false)) from rfl, one_same]
      have hxl : ((xa ++ xb).take M).length = M := by rw [List.length_take, List.length_append, la, lb]; omega
      simp only [hxl] at hox
      obtain ⟨is, his⟩ : ∃ is, (crash1 kp (xa ++ xb, 0, false)).isSome = is := ⟨_, rfl⟩
      have hisv : is = decide (0 < M) := by rw [← his]; unfold crash1; rw [HKC.out]; by_cases h : M = 0 <;> simp [h]; omega
      rw [his]
      obtain ⟨Ax, cx, rfl⟩ := own_slice' hox
      have HX := Lib.hid hox
      have HOa := Lib.hid (own_frm HO9.out (Frm.of_below (S := fun _ => False) hba) (fun _ _ h => h))
      have HSa := Lib.hid (HS9.out.below hba)
      have HBa := Lib.hid (HB9.out.trans (hba.mono s9))
      have sa : w.heap.size ≤ wa.heap.size := HBa.out.size
      have hgb9 := HS9.out.glt
      have hbb9 := HS9.out.blt
      clear hox hba HO9 HS9 HB9 his
      go_wp2_with fail
      refine (crash_any g b _ _ _ _ 0 _ HSa.out (by omega) (by simp [maxLen])).mono ?_
      rintro e wb ⟨rfl, hsb, hfb⟩
      rw [crash_one, crash_again kp (xa ++ xb, 0, false) (by simp) (by simp only [List.length_append]; omega)] at hsb
      have HSb := Lib.hid hsb
      have HXb := Lib.hid (Sl.of_own (own_frm HX.out hfb (fun j hj h => by have := (HX.out.lt j hj).1; omega)) (u8s_one _))
      have HOb := Lib.hid (own_frm HOa.out hfb (fun j hj h => by have := HV8.out j hj; omega))
      have HBb := Lib.hid (Frm.below HBa.out hfb sa ngb.out)
      have sb : w.heap.size ≤ wb.heap.size := HBb.out.size
      clear hsb hfb HX HOa HBa HSa
      go_wp2_with fail
      refine (read_any g b _ _ _ _ n nw _ HSb.out (by omega)).mono ?_
      rintro e wc ⟨vy, rfl, hoy, hbc⟩
      rw [show (plainS (one n (crash1 kp (xa ++ xb, 0, false)))).f = one n (crash1 kp (xa ++ xb, 0, false)) from rfl, crash_bytes, HKC.out] at hoy
      rw [show (plainS (one n (crash1 kp (xa ++ xb, 0, false)))).f = one n (crash1 kp (xa ++ xb, 0, false)) from rfl, one_same]
      simp only [hxl] at hoy
      obtain ⟨is2, his2⟩ : ∃ is2, (crash1 kp (xa ++ xb, 0, false)).isSome = is2 := ⟨_, rfl⟩
      have hisv2 : is2 = decide (0 < M) := by rw [← his2]; unfold crash1; rw [HKC.out]; by_cases h : M = 0 <;> simp [h]; omega
      rw [his2]
      obtain ⟨Ay, cy, rfl⟩ := own_slice' hoy
      have HYc := Lib.hid (Sl.of_own hoy (u8s_one _))
      have HXc := Lib.hid (HXb.out.below hbc)
      have HOc := Lib.hid (((Sl.of_own HOb.out (u8s_one _)).take HKM.out).below hbc)
      have HSc := Lib.hid (HSb.out.below hbc)
      have HBc := Lib.hid (HBb.out.trans (hbc.mono sb))
      clear hoy hbc HXb HOb HSb HBb his2
      rw [u8s_take] at HOc
      subst hisv
      subst hisv2
      by_cases hK0 : M = 0
      · have hq : ¬ (0 : Int) < (M : Int) := by omega
        have hq2 : decide (0 < M) = false := by simp [hK0]
        have hq3 : ¬ 0 < M := by omega
        rw [hq2]
        clear hK0
        go_wp2_with fail
        refine (sameb_any _ _ _ M ((xa ++ xb).take M) HXc.out HOc.out).mono ?_
        rintro e _ ⟨rfl, m1, rfl⟩
        go_wp2_with fail
        refine (sameb_any _ _ _ M ((xa ++ xb).take M) (HXc.out.drewN m1) (HYc.out.drewN m1)).mono ?_
        rintro e _ ⟨rfl, m2, rfl⟩
        have HSd := Lib.hid (HSc.out.frm ((Frm.refl (fun _ => False) wc).drewN (m1 + m2)) (fun _ _ h => h) (fun h => h) (fun h => h))
        clear HSc
        go_wp2_with fail
        refine (dead_any g b _ _ _ _ _ HSd.out).mono ?_
        rintro e _ ⟨rfl, rfl⟩
        go_wp2_with fail
        refine (wakes_any _).mono ?_
        rintro e wd ⟨rfl, hbd⟩
        have HBd := Lib.hid ((HBc.out.drewN'' (m1 + m2)).trans (hbd.mono HBc.out.size))
        clear hbd
        go_wp2_with fail
        go_ret
        exact ⟨rfl, HBd.out⟩
      · have hq : (0 : Int) < (M : Int) := by omega
        have hq2 : decide (0 < M) = true := by simp; omega
        have hq3 : 0 < M := by omega
        rw [hq2]
        clear hK0
        go_wp2_with fail
        refine (sameb_any _ _ _ M ((xa ++ xb).take M) HXc.out HOc.out).mono ?_
        rintro e _ ⟨rfl, m1, rfl⟩
        go_wp2_with fail
        refine (sameb_any _ _ _ M ((xa ++ xb).take M) (HXc.out.drewN m1) (HYc.out.drewN m1)).mono ?_
        rintro e _ ⟨rfl, m2, rfl⟩
        have HSd := Lib.hid (HSc.out.frm ((Frm.refl (fun _ => False) wc).drewN (m1 + m2)) (fun _ _ h => h) (fun h => h) (fun h => h))
        clear HSc
        go_wp2_with fail
        refine (dead_any g b _ _ _ _ _ HSd.out).mono ?_
        rintro e _ ⟨rfl, rfl⟩
        go_wp2_with fail
        refine (wakes_any _).mono ?_
        rintro e wd ⟨rfl, hbd⟩
        have HBd := Lib.hid ((HBc.out.drewN'' (m1 + m2)).trans (hbd.mono HBc.out.size))
        clear hbd
        go_wp2_with fail
        go_ret
        exact ⟨rfl, HBd.out⟩
    · obtain ⟨hKc, hKM⟩ : crn kp (xa ++ xb, 0, false) = kp ∧ kp ≤ M := ⟨by unfold crn mn mx; simp only [List.length_append, la, lb]; split <;> split <;> omega, by omega⟩
      have hmin : min (kp : Int) (M : Int) = (kp : Int) := by omega
      have HKC := Lib.hid hKc
      have HKM := Lib.hid hKM
      clear hKc hKM
      have k0 : (0 : Int) ≤ (kp : Int) := by omega
      go_wp2_with (at_builtin; refine wp_app w.heap.size rfl _ _ 23 5 (.int .u8 0) 1 1 rfl Try.underlying23 HI.out rfl (by omega) (by omega) rfl rfl HOC.out SB7.out (by omega) s7 ?_; intro v8 w8 hown hfr hat; rw [hM, ← u8s_append] at hown; obtain ⟨A8, c8, rfl⟩ := own_slice' hown)
      have HB8 := Lib.hid (Frm.below HB7.out hfr s7 (fun j hj => (HOC.out.lt j hj).1))
      have hv8 : ∀ j, (Value.slice A8 M c8).ownBlock = some j → w6.heap.size ≤ j := fun j hj => by
        rcases hat with h | h
        · rw [h] at hj; exact HOC2.out j hj
        · rw [h] at hj; injection hj with hj; omega
      have hfr2 : ∀ j, vc.ownBlock = some j → ¬ j = g ∧ ¬ j = b := fun j hj => by have := HOC2.out j hj; omega
      have HS8 := Lib.hid (HS7.out.frm hfr (fun j hj e => by have := hj.2; have := HOC2.out j e; omega) (fun e => (hfr2 g e).1 rfl) (fun e => (hfr2 b e).2 rfl))
      have HO8 := Lib.hid hown
      have HV8 := Lib.hid hv8
      have s8 : w.heap.size ≤ w8.heap.size := HB8.out.size
      clear hown hfr hat HOC SB7 HB7 HS7 hv8 hfr2
      have kcn : kp ≤ c8 := by
        obtain ⟨_, _, e, h1, _⟩ := Sl.of_own HO8.out (u8s_one _)
        injection e with _ _ e3
        subst e3
        have := HKM.out
        omega
      have kc : (kp : Int) ≤ (c8 : Int) := by omega
      refine (crash_any g b _ _ _ _ kp _ HS8.out (by omega) (by simp [maxLen])).mono ?_
      rintro e w9 ⟨rfl, hs9, hf9⟩
      rw [crash_one] at hs9
      simp only [Option.bind_some] at hs9
      have HS9 := Lib.hid hs9
      have HO9 := Lib.hid (own_frm HO8.out hf9 (fun j hj h => by have := HV8.out j hj; omega))
      have HB9 := Lib.hid (Frm.below HB8.out hf9 s8 ngb.out)
      have s9 : w.heap.size ≤ w9.heap.size := HB9.out.size
      clear hs9 hf9 HS8 HO8 HB8
      go_wp2_with fail
      refine (read_any g b _ _ _ _ n nw _ HS9.out (by omega)).mono ?_
      rintro e wa ⟨vx, rfl, hox, hba⟩
      rw [show (plainS (one n (crash1 kp (xa ++ xb, 0, false)))).f = one n (crash1 kp (xa ++ xb, 0, false)) from rfl, crash_bytes, HKC.out] at hox
      rw [show (plainS (one n (crash1 kp (xa ++ xb, 0, false)))).f = one n (crash1 kp (xa ++ xb, 0, false)) from rfl, one_same]
      have hxl : ((xa ++ xb).take kp).length = kp := by rw [List.length_take, List.length_append, la, lb]; omega
      simp only [hxl] at hox
      obtain ⟨is, his⟩ : ∃ is, (crash1 kp (xa ++ xb, 0, false)).isSome = is := ⟨_, rfl⟩
      have hisv : is = decide (0 < kp) := by rw [← his]; unfold crash1; rw [HKC.out]; by_cases h : kp = 0 <;> simp [h]; omega
      rw [his]
      obtain ⟨Ax, cx, rfl⟩ := own_slice' hox
      have HX := Lib.hid hox
      have HOa := Lib.hid (own_frm HO9.out (Frm.of_below (S := fun _ => False) hba) (fun _ _ h => h))
      have HSa := Lib.hid (HS9.out.below hba)
      have HBa := Lib.hid (HB9.out.trans (hba.mono s9))
      have sa : w.heap.size ≤ wa.heap.size := HBa.out.size
      have hgb9 := HS9.out.glt
      have hbb9 := HS9.out.blt
      clear hox hba HO9 HS9 HB9 his
      go_wp2_with fail
      refine (crash_any g b _ _ _ _ 0 _ HSa.out (by omega) (by simp [maxLen])).mono ?_
      rintro e wb ⟨rfl, hsb, hfb⟩
      rw [crash_one, crash_again kp (xa ++ xb, 0, false) (by simp) (by simp only [List.length_append]; omega)] at hsb
      have HSb := Lib.hid hsb
      have HXb := Lib.hid (Sl.of_own (own_frm HX.out hfb (fun j hj h => by have := (HX.out.lt j hj).1; omega)) (u8s_one _))
      have HOb := Lib.hid (own_frm HOa.out hfb (fun j hj h => by have := HV8.out j hj; omega))
      have HBb := Lib.hid (Frm.below HBa.out hfb sa ngb.out)
      have sb : w.heap.size ≤ wb.heap.size := HBb.out.size
      clear hsb hfb HX HOa HBa HSa
      go_wp2_with fail
      refine (read_any g b _ _ _ _ n nw _ HSb.out (by omega)).mono ?_
      rintro e wc ⟨vy, rfl, hoy, hbc⟩
      rw [show (plainS (one n (crash1 kp (xa ++ xb, 0, false)))).f = one n (crash1 kp (xa ++ xb, 0, false)) from rfl, crash_bytes, HKC.out] at hoy
      rw [show (plainS (one n (crash1 kp (xa ++ xb, 0, false)))).f = one n (crash1 kp (xa ++ xb, 0, false)) from rfl, one_same]
      simp only [hxl] at hoy
      obtain ⟨is2, his2⟩ : ∃ is2, (crash1 kp (xa ++ xb, 0, false)).isSome = is2 := ⟨_, rfl⟩
      have hisv2 : is2 = decide (0 < kp) := by rw [← his2]; unfold crash1; rw [HKC.out]; by_cases h : kp = 0 <;> simp [h]; omega
      rw [his2]
      obtain ⟨Ay, cy, rfl⟩ := own_slice' hoy
      have HYc := Lib.hid (Sl.of_own hoy (u8s_one _))
      have HXc := Lib.hid (HXb.out.below hbc)
      have HOc := Lib.hid (((Sl.of_own HOb.out (u8s_one _)).take HKM.out).below hbc)
      have HSc := Lib.hid (HSb.out.below hbc)
      have HBc := Lib.hid (HBb.out.trans (hbc.mono sb))
      clear hoy hbc HXb HOb HSb HBb his2
      rw [u8s_take] at HOc
      subst hisv
      subst hisv2
      by_cases hK0 : kp = 0
      · have hq : ¬ (0 : Int) < (kp : Int) := by omega
        have hq2 : decide (0 < kp) = false := by simp [hK0]
        have hq3 : ¬ 0 < kp := by omega
        rw [hq2]
        clear hK0
        go_wp2_with fail
        refine (sameb_any _ _ _ kp ((xa ++ xb).take kp) HXc.out HOc.out).mono ?_
        rintro e _ ⟨rfl, m1, rfl⟩
        go_wp2_with fail
        refine (sameb_any _ _ _ kp ((xa ++ xb).take kp) (HXc.out.drewN m1) (HYc.out.drewN m1)).mono ?_
        rintro e _ ⟨rfl, m2, rfl⟩
        have HSd := Lib.hid (HSc.out.frm ((Frm.refl (fun _ => False) wc).drewN (m1 + m2)) (fun _ _ h => h) (fun h => h) (fun h => h))
        clear HSc
        go_wp2_with fail
        refine (dead_any g b _ _ _ _ _ HSd.out).mono ?_
        rintro e _ ⟨rfl, rfl⟩
        go_wp2_with fail
        refine (wakes_any _).mono ?_
        rintro e wd ⟨rfl, hbd⟩
        have HBd := Lib.hid ((HBc.out.drewN'' (m1 + m2)).trans (hbd.mono HBc.out.size))
        clear hbd
        go_wp2_with fail
        go_ret
        exact ⟨rfl, HBd.out⟩
      · have hq : (0 : Int) < (kp : Int) := by omega
        have hq2 : decide (0 < kp) = true := by simp; omega
        have hq3 : 0 < kp := by omega
        rw [hq2]
        clear hK0
        go_wp2_with fail
        refine (sameb_any _ _ _ kp ((xa ++ xb).take kp) HXc.out HOc.out).mono ?_
        rintro e _ ⟨rfl, m1, rfl⟩
        go_wp2_with fail
        refine (sameb_any _ _ _ kp ((xa ++ xb).take kp) (HXc.out.drewN m1) (HYc.out.drewN m1)).mono ?_
        rintro e _ ⟨rfl, m2, rfl⟩
        have HSd := Lib.hid (HSc.out.frm ((Frm.refl (fun _ => False) wc).drewN (m1 + m2)) (fun _ _ h => h) (fun h => h) (fun h => h))
        clear HSc
        go_wp2_with fail
        refine (dead_any g b _ _ _ _ _ HSd.out).mono ?_
        rintro e _ ⟨rfl, rfl⟩
        go_wp2_with fail
        refine (wakes_any _).mono ?_
        rintro e wd ⟨rfl, hbd⟩
        have HBd := Lib.hid ((HBc.out.drewN'' (m1 + m2)).trans (hbd.mono HBc.out.size))
        clear hbd
        go_wp2_with fail
        go_ret
        exact ⟨rfl, HBd.out⟩

/-! ### THE ROW's STEP: WRITTEN OUT: LEAVE IT -/
set_option maxRecDepth 100000 in
theorem lifted (os : Os) (started : os.Started) (H : Type) (enc : TypeId × Value → H) :
    ReturnsInHanded {} Try.checked os 5 .any (Rows.storeTearsSpec.pre6 enc Try.prog Try.f5 Rows.storeTearsRow.domain false) (Rows.storeTearsSpec.post enc Try.prog Try.f5 false true false false) := by
  refine returnsInHanded_of_change (C := Try.checked) own started (by kernel_rfl) Try.func5
    (ChangeSpec.witness6 (enc := enc) (C := Try.checked) false ⟨#[], #[.slice none 0 0, .slice none 0 0, .int .i64 0, .int .i64 0, .bool false], []⟩ 8 (by kernel_rfl) (by kernel_rfl) (by kernel_rfl) (by kernel_rfl)) ?_
  intro W base args ds gs before hval0 hW hcnd _
  have hval : ∀ (j : Nat) t v, Try.f5.params[j]? = some t → args[j]? = some v → Value.okWide Try.prog W .any base t v := hval0
  have hW' := hW
  obtain ⟨p, q, hA0, hV, rfl, hfz, hnd⟩ := hW
  have hA : DataW.TrodAll enc Try.prog W 0 (fun _ => true) true Try.f5.params.toList args.toList ds p := hA0
  rw [Try.params5] at hA hval
  obtain ⟨v0, vs0, d0, ds0, p0, q0, hargs, rfl, rfl, h0, r0⟩ := trodAll_cons hA
  obtain ⟨v1, vs1, d1, ds1, p1, q1, rfl, rfl, rfl, h1, r1⟩ := trodAll_cons r0
  obtain ⟨v2, vs2, d2, ds2, p2, q2, rfl, rfl, rfl, h2, r2⟩ := trodAll_cons r1
  obtain ⟨v3, vs3, d3, ds3, p3, q3, rfl, rfl, rfl, h3, r3⟩ := trodAll_cons r2
  obtain ⟨v4, vs4, d4, ds4, p4, q4, rfl, rfl, rfl, h4, r4⟩ := trodAll_cons r3
  obtain ⟨rfl, rfl, rfl⟩ := trodAll_nil r4
  obtain rfl : args = #[v0, v1, v2, v3, v4] := by cases args; simp_all
  obtain ⟨rfl, rfl⟩ := trodVars_none hV
  obtain ⟨a0, len0, cap0, rfl⟩ := okWide_slice Try.underlying23 (hval 0 23 v0 rfl rfl)
  have k0 := h0
  have lt0 : ∀ x ∈ p0, x.block < W.heap.size := by obtain ⟨m, hm⟩ := k0; exact DataW.trod_lt m _ _ _ hm
  obtain ⟨z0, w0⟩ : ∃ zs, IsRow .u8 W a0 len0 cap0 zs := by
    obtain ⟨fuel, hf⟩ := h0
    rcases open_ints Try.underlying23 Try.underlying5 (by kernel_rfl) hf with ⟨hcs, _⟩ | ⟨x, l, c, zs, hcs, _, hl, hm, hz, _, hcell, hwz⟩
    · simp [Value.cells] at hcs
      obtain ⟨rfl, rfl, rfl⟩ := hcs
      exact ⟨[], .inl ⟨rfl, rfl, rfl, rfl⟩⟩
    · simp [Value.cells] at hcs
      obtain ⟨rfl, rfl, rfl⟩ := hcs
      exact ⟨zs, .inr ⟨_, rfl, hl, hm, by simpa using hz, hcell, hwz⟩⟩
  obtain ⟨a1, len1, cap1, rfl⟩ := okWide_slice Try.underlying23 (hval 1 23 v1 rfl rfl)
  have k1 := h1
  have lt1 : ∀ x ∈ p1, x.block < W.heap.size := by obtain ⟨m, hm⟩ := k1; exact DataW.trod_lt m _ _ _ hm
  obtain ⟨z1, w1⟩ : ∃ zs, IsRow .u8 W a1 len1 cap1 zs := by
    obtain ⟨fuel, hf⟩ := h1
    rcases open_ints Try.underlying23 Try.underlying5 (by kernel_rfl) hf with ⟨hcs, _⟩ | ⟨x, l, c, zs, hcs, _, hl, hm, hz, _, hcell, hwz⟩
    · simp [Value.cells] at hcs
      obtain ⟨rfl, rfl, rfl⟩ := hcs
      exact ⟨[], .inl ⟨rfl, rfl, rfl, rfl⟩⟩
    · simp [Value.cells] at hcs
      obtain ⟨rfl, rfl, rfl⟩ := hcs
      exact ⟨zs, .inr ⟨_, rfl, hl, hm, by simpa using hz, hcell, hwz⟩⟩
  obtain ⟨a2, rfl, rfl, rfl, w2⟩ := open_int Try.underlying3 (hval 2 3 v2 rfl rfl) h2
  obtain ⟨a3, rfl, rfl, rfl, w3⟩ := open_int Try.underlying3 (hval 3 3 v3 rfl rfl) h3
  obtain ⟨a4, rfl, rfl, rfl⟩ := open_bool Try.underlying4 (hval 4 4 v4 rfl rfl) h4
  clear hA0 hval0
  refine (walk a0 len0 cap0 z0 a1 len1 cap1 z1 a2 a3 a4 W w0 w1 w2 w3).mono fun e W' ⟨he, bel⟩ => ?_
  subst he
  exact ⟨_, rfl, _, _, _, [], _, [], hW', trodAll_mk1 (shut_bool Try.underlying4 _), (trodAll_cons_mk (Below.trod laidOut (by kernel_rfl) (of_decide_eq_true (by kernel_rfl)) k0 bel lt0) (trodAll_cons_mk (Below.trod laidOut (by kernel_rfl) (of_decide_eq_true (by kernel_rfl)) k1 bel lt1) (trodAll_cons_mk (shut_int Try.underlying3 w2) (trodAll_cons_mk (shut_int Try.underlying3 w3) (trodAll_cons_mk (shut_bool Try.underlying4 _) trodAll_mk0))))), rfl, bel.frame _, fun h => by cases h⟩

theorem over : Rows.storeTearsRow.holds Try.pinned (OpenSpec.ofChange Rows.storeTearsSpec) :=
  OpenClaim.holds_of_wide 5 Try.f5 rfl rfl rfl rfl rfl rfl rfl ⟨rfl, rfl, rfl, rfl, rfl⟩ rfl rfl rfl rfl rfl (by kernel_rfl) Try.func5 (by kernel_rfl)
    (of_decide_eq_true (by kernel_rfl)) (by unfold Func.isWrapper; first | (rw [if_pos (by decide +kernel)]; kernel_rfl) | (rw [if_neg (by decide +kernel)]; exact ⟨rfl, rfl⟩))
    (fun os started H enc _ => lifted os started H enc)

/-- ████ THE STATEMENT ████ -/
theorem proved : Rows.StoreTearsSaid := over
#print axioms proved
end Go.Proofs.Ytfcagjnedaaadaa.storeTears
