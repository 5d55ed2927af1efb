/- Proved: CwndSteps returns true for every input, and leaves its arguments as they were; no further condition.
   The frame around the walk was written by the guide's proof-skeleton program. -/
import Derived.Test.YtkakldfdejklpaaRows
import Derived.Test.YtkakldfdejklpaaWk
import Derived.Test.YtkakldfdejklpaaInv
import Derived.Below
import Derived.WalkKit
import Derived.ProofKit
import Derived.OpenShut
import Derived.ShutString
namespace Go.Proofs.Ytkakldfdejklpaa.cwndSteps
open Go.ChangeShapes Go.WideShapes Go.ChangeAt Go.RowKit
open Go.ChangeMaps (open_string shut_string)
set_option linter.unusedVariables false      -- a walk need not use every 'w<i>' (that an integer argument fits its kind)

theorem own : ownKnob Try.prog.godebug = none := by kernel_rfl

/-! ### STEP 1: THE WALK: the Go text returns true. 'Grown w w'': the world has at most new blocks (Derived/RowKit3.lean). Part the cases AHEAD of 'go_enter' where a test parts the walk; take each callee by a contract of your own. -/
set_option maxHeartbeats 8000000 in
set_option maxRecDepth 100000 in
theorem walk (a0 : Int) (a1 : Int) (w0 : (Lit.int .i64 a0).wf = true) (w1 : (Lit.int .i64 a1).wf = true) (w : World) :
    Calls Try.prog 5 #[.int .i64 a0, .int .i64 a1] w fun e w' => e = .returned (.bool true) ∧ Below w.heap.size w w' := by
  obtain ⟨q, hq⟩ : ∃ q, q = a0 % 16 := ⟨_, rfl⟩
  have q0 : 0 ≤ q := by omega
  have q16 : q < 16 := by omega
  obtain ⟨a, ha⟩ : ∃ a : Nat, (a : Int) = a1 % 20 := ⟨(a1 % 20).toNat, by omega⟩
  have a20 : a < 20 := by omega
  have HQ := Lib.hid hq
  have HA := Lib.hid ha
  clear w1 w0 hq ha
  obtain ⟨s0, hs0⟩ : ∃ s0, s0 = mn 2 (1 + q) := ⟨_, rfl⟩
  have es0 : (if 1 + q < 2 then 1 + q else 2) = s0 := hs0.symm
  have HS0 := Lib.hid hs0
  clear hs0
  go_enter Try.func5, Try.ntmps5
  go_wp2_with fail
  refine (within_any a0 16 w (by omega) (by omega)).mono ?_
  rintro e _ ⟨rfl, rfl⟩
  rw [← HQ.out]
  go_wp2_with fail
  refine (within_any a1 20 _ (by omega) (by omega)).mono ?_
  rintro e _ ⟨rfl, rfl⟩
  rw [← HA.out]
  go_wp2_with fail
  refine (new_good (1 + q) _ (by omega) (by omega)).mono ?_
  rintro e w1 ⟨g, rfl, hg, G, hw, hb⟩
  rw [← HS0.out] at G hw
  have HG := Lib.hid G
  have HW := Lib.hid hw
  have HB := Lib.hid hb
  clear G hw hb
  go_wp2_with fail
  go_loopw [6, 7] (fun z i wr => ∃ (k : Nat) (s c : Int), k ≤ a ∧ i = .int .i64 k ∧ z = .int .i64 s ∧ Good (1 + q) s (1 + q) c ∧ Win wr g (1 + q) s (1 + q) c ∧ Below w.heap.size w wr) (fun _ i _ => 20 - (intOf i).toNat)
  case atStart => exact ⟨0, _, _, Nat.zero_le _, rfl, rfl, HG.out, HW.out, HB.out⟩
  case round =>
    clear HW HB HG es0
    obtain ⟨k, s, c, hk, rfl, rfl, G, hw, hb⟩ := hrel
    have GG := Lib.hid G
    have HW := Lib.hid hw
    have HB := Lib.hid hb
    have s1 := G.s1
    have sm := G.sm
    have c0 := G.c0
    have cs := G.cs
    clear G hw hb
    have sz := HB.out.size
    by_cases hlt : k < a
    · go_wp2_with fail
      refine (ack_any g _ _ _ _ _ HW.out (by omega) (by omega) (by omega) (by omega)).mono ?_
      rintro e w2 ⟨rfl, h2, f2⟩
      have G2 := good_ack GG.out
      have S2 := ack_full GG.out
      have bb2 := Frm.below HB.out f2 sz (by rintro i rfl; exact hg)
      obtain ⟨s', hs'⟩ : ∃ s', s' = ackS (1 + q) s (1 + q) c := ⟨_, rfl⟩
      obtain ⟨c', hc'⟩ : ∃ c', c' = ackC s (1 + q) c := ⟨_, rfl⟩
      rw [← hs'] at h2 G2 S2
      rw [← hc'] at h2 G2
      have es : (if 1 + q < s + 1 then 1 + q else s + 1) = s' := S2.symm
      clear S2 hs' hc' f2
      have H2 := Lib.hid h2
      have GG2 := Lib.hid G2
      have HB2 := Lib.hid bb2
      clear h2 G2 bb2
      go_wp2_with fail
      refine (size_any g _ _ _ _ _ H2.out).mono ?_
      rintro e _ ⟨rfl, rfl⟩
      go_wp2_with fail
      go_roundw
      case rel => exact ⟨k + 1, _, _, by omega, by go_num, rfl, GG2.out, H2.out, HB2.out⟩
      case measure => simp [intOf]; omega
    · clear hk a20 HA
      go_wp2_with fail
      refine (loss_any g _ _ _ _ _ HW.out (by omega) (by omega)).mono ?_
      rintro e w2 ⟨rfl, h2, f2⟩
      have G2 := good_loss GG.out
      have bb2 := Frm.below HB.out f2 sz (by rintro i rfl; exact hg)
      obtain ⟨h, hs'⟩ : ∃ h, h = mx (s / 2) 1 := ⟨_, rfl⟩
      rw [← hs'] at h2 G2
      have es : (if s / 2 < 1 then 1 else s / 2) = h := hs'.symm
      have p1 := G2.s1
      have p2 := G2.sm
      clear hs' f2 HW HB GG
      have H2 := Lib.hid h2
      have HB2 := Lib.hid bb2
      clear h2 G2 bb2
      go_wp2_with fail
      refine (size_any g _ _ _ _ _ H2.out).mono ?_
      rintro e _ ⟨rfl, rfl⟩
      go_wp2_with fail
      go_loopw [9] (fun i wr => ∃ (k : Nat), k ≤ h - 1 ∧ i = .int .i64 k ∧ Win wr g (1 + q) h h k ∧ Below w.heap.size w wr) (fun i _ => 20 - (intOf i).toNat)
      case atStart => exact ⟨0, by omega, rfl, H2.out, HB2.out⟩
      case round =>
        clear H2 HB2 es sz
        obtain ⟨k2, hk2, rfl, hw, hb⟩ := hrel
        have HW := Lib.hid hw
        have HB := Lib.hid hb
        clear hw hb
        have sz := HB.out.size
        by_cases hlt2 : (k2 : Int) < h - 1
        · go_wp2_with fail
          refine (ack_any g _ _ _ _ _ HW.out (by omega) (by omega) (by omega) (by omega)).mono ?_
          rintro e w3 ⟨rfl, h2, f2⟩
          rw [show ackS (1 + q) h h k2 = h from by unfold ackS; rw [if_neg (by omega), if_pos (by omega)], show ackC h h k2 = k2 + 1 from by unfold ackC; rw [if_neg (by omega), if_pos (by omega)]] at h2
          have bb2 := Frm.below HB.out f2 sz (by rintro i rfl; exact hg)
          have H2 := Lib.hid h2
          have HB2 := Lib.hid bb2
          clear h2 bb2 f2
          go_wp2_with fail
          refine (size_any g _ _ _ _ _ H2.out).mono ?_
          rintro e _ ⟨rfl, rfl⟩
          go_wp2_with fail
          go_roundw
          case rel => exact ⟨k2 + 1, by omega, by go_num, by simpa using H2.out, HB2.out⟩
          case measure => simp [intOf]; omega
        · have hk3 : (k2 : Int) = h - 1 := by omega
          have HK3 := Lib.hid hk3
          clear hk3 hk2
          obtain ⟨v, hv⟩ : ∃ v, v = mn (h + 1) (1 + q) := ⟨_, rfl⟩
          have ev : (if 1 + q < h + 1 then 1 + q else h + 1) = v := hv.symm
          have v1 : 1 ≤ v := by rw [← ev]; split <;> omega
          have v2 : v ≤ 17 := by rw [← ev]; split <;> omega
          obtain ⟨x1, hx1⟩ : ∃ x1, x1 = mx (v / 2) 1 := ⟨_, rfl⟩
          obtain ⟨x2, hx2⟩ : ∃ x2, x2 = mx (x1 / 2) 1 := ⟨_, rfl⟩
          have x1p : 1 ≤ x1 := by rw [hx1]; unfold mx; split <;> omega
          have x1q : x1 ≤ 17 := by rw [hx1]; unfold mx; split <;> omega
          have ex2 : (if v / 2 / 2 < 1 then 1 else v / 2 / 2) = x2 := by rw [hx2, hx1]; unfold mx; repeat' split
                                                                         all_goals omega
          have HX1 := Lib.hid hx1
          have HX2 := Lib.hid hx2
          have HV := Lib.hid hv
          have EX2 := Lib.hid ex2
          clear hx1 hx2 hv ex2
          go_wp2_with fail
          refine (ack_any g _ _ _ _ _ HW.out (by omega) (by omega) (by omega) (by have := HK3.out; omega)).mono ?_
          rintro e w3 ⟨rfl, h2, f2⟩
          rw [show ackS (1 + q) h h k2 = v from by unfold ackS; rw [if_neg (by omega), if_neg (by have := HK3.out; omega)]; exact HV.out.symm, show ackC h h k2 = 0 from by unfold ackC; rw [if_neg (by omega), if_neg (by have := HK3.out; omega)]] at h2
          have bb2 := Frm.below HB.out f2 sz (by rintro i rfl; exact hg)
          clear f2 HW HB sz
          have H2 := Lib.hid h2
          have HB2 := Lib.hid bb2
          clear h2 bb2
          go_wp2_with fail
          refine (clone_any g _ _ _ _ _ H2.out).mono ?_
          rintro e w4 ⟨gc, rfl, hgc, hc, hb4⟩
          have n1 : g ≠ gc := by have := H2.out.lt; omega
          have sz2 := HB2.out.size
          have hgc' : w.heap.size ≤ gc := Nat.le_trans sz2 hgc
          have HW := Lib.hid (Blk.below H2.out hb4)
          have HC := Lib.hid hc
          have HB := Lib.hid (Frm.below HB2.out (Frm.of_below (S := fun _ => False) hb4) sz2 (by rintro i ⟨⟩))
          clear H2 hc HB2 hb4 hgc sz2
          go_wp2_with fail
          refine (size_any g _ _ _ _ _ HW.out).mono ?_
          rintro e _ ⟨rfl, rfl⟩
          go_wp2_with fail
          refine (loss_any gc _ _ _ _ _ HC.out (by omega) (by omega)).mono ?_
          rintro e w5 ⟨rfl, h2, f2⟩
          rw [← HX1.out] at h2
          have sz := HB.out.size
          have HW2 := Lib.hid (Blk.frm HW.out f2 n1)
          have HC2 := Lib.hid h2
          have HB2 := Lib.hid (Frm.below HB.out f2 sz (by rintro i rfl; exact hgc'))
          clear HW HC HB h2 f2 sz
          go_wp2_with fail
          refine (loss_any gc _ _ _ _ _ HC2.out (by omega) (by omega)).mono ?_
          rintro e w6 ⟨rfl, h2, f2⟩
          rw [← HX2.out] at h2
          have sz := HB2.out.size
          have HW := Lib.hid (Blk.frm HW2.out f2 n1)
          have HC := Lib.hid h2
          have HB := Lib.hid (Frm.below HB2.out f2 sz (by rintro i rfl; exact hgc'))
          clear HW2 HC2 HB2 h2 f2 sz
          go_wp2_with fail
          refine (new_any (-3) _).mono ?_
          rintro e w7 ⟨g1, rfl, hg1, h1', hb1⟩
          have h1 : Win w7 g1 1 1 1 0 := h1'
          have sz := HB.out.size
          have n2 : g ≠ g1 := by have := HW.out.lt; omega
          have n3 : gc ≠ g1 := by have := HC.out.lt; omega
          have hg1' : w.heap.size ≤ g1 := Nat.le_trans sz hg1
          have HW2 := Lib.hid (Blk.below HW.out hb1)
          have HC2 := Lib.hid (Blk.below HC.out hb1)
          have HO2 := Lib.hid h1
          have HB2 := Lib.hid (Frm.below HB.out (Frm.of_below (S := fun _ => False) hb1) sz (by rintro i ⟨⟩))
          clear HW HC HB h1 h1' hb1 hg1 sz
          go_wp2_with fail
          refine (new_any 25 _).mono ?_
          rintro e w8 ⟨g2, rfl, hg2, h1', hb1⟩
          have h1 : Win w8 g2 16 2 16 0 := h1'
          have sz := HB2.out.size
          have n4 : g ≠ g2 := by have := HW2.out.lt; omega
          have n5 : gc ≠ g2 := by have := HC2.out.lt; omega
          have n6 : g1 ≠ g2 := by have := HO2.out.lt; omega
          have hg2' : w.heap.size ≤ g2 := Nat.le_trans sz hg2
          have HW := Lib.hid (Blk.below HW2.out hb1)
          have HC := Lib.hid (Blk.below HC2.out hb1)
          have HO := Lib.hid (Blk.below HO2.out hb1)
          have HA := Lib.hid h1
          have HB := Lib.hid (Frm.below HB2.out (Frm.of_below (S := fun _ => False) hb1) sz (by rintro i ⟨⟩))
          clear HW2 HC2 HO2 HB2 h1 h1' hb1 hg2 sz
          go_wp2_with fail
          go_loopw [13] (fun i wr => ∃ (k : Nat) (s c : Int), k ≤ 40 ∧ i = .int .i64 k ∧ Good 16 s 16 c ∧ (s = 16 ∨ s = 2 + k) ∧ Win wr g (1 + q) v h 0 ∧ Win wr gc (1 + q) x2 x2 0 ∧ Win wr g1 1 1 1 0 ∧ Win wr g2 16 s 16 c ∧ Below w.heap.size w wr) (fun i _ => 40 - (intOf i).toNat)
          case atStart => exact ⟨0, 2, 0, by omega, rfl, ⟨by omega, by omega, by omega, by omega, by omega, by omega, by omega⟩, .inr rfl, HW.out, HC.out, HO.out, HA.out, HB.out⟩
          case round =>
            clear HW HC HO HA HB
            obtain ⟨k, s3, c3, hk, rfl, G, hs3, hw, hc, ho, ha, hb⟩ := hrel
            have GG := Lib.hid G
            have HS := Lib.hid hs3
            have HW := Lib.hid hw
            have HC := Lib.hid hc
            have HO := Lib.hid ho
            have HA := Lib.hid ha
            have HB := Lib.hid hb
            have t1 := G.s1
            have tm := G.sm
            have t0 := G.c0
            have ts := G.cs
            clear G hs3 hw hc ho ha hb
            have sz := HB.out.size
            by_cases h40 : k < 40
            · go_wp2_with fail
              refine (ack_any g1 _ _ _ _ _ HO.out (by omega) (by omega) (by omega) (by omega)).mono ?_
              rintro e wa ⟨rfl, h2', f2⟩
              have h2 : Win wa g1 1 1 1 0 := h2'
              have HW2 := Lib.hid (Blk.frm HW.out f2 n2)
              have HC2 := Lib.hid (Blk.frm HC.out f2 n3)
              have HO2 := Lib.hid h2
              have HA2 := Lib.hid (Blk.frm HA.out f2 (fun e => n6 e.symm))
              have HB2 := Lib.hid (Frm.below HB.out f2 sz (by rintro i rfl; exact hg1'))
              clear HW HC HO HA HB h2 h2' f2 sz
              go_wp2_with fail
              refine (ack_any g2 _ _ _ _ _ HA2.out (by omega) (by omega) (by omega) (by omega)).mono ?_
              rintro e wb ⟨rfl, h2, f2⟩
              have sz := HB2.out.size
              have HW := Lib.hid (Blk.frm HW2.out f2 n4)
              have HC := Lib.hid (Blk.frm HC2.out f2 n5)
              have HO := Lib.hid (Blk.frm HO2.out f2 n6)
              have HA := Lib.hid h2
              have HB := Lib.hid (Frm.below HB2.out f2 sz (by rintro i rfl; exact hg2'))
              clear HW2 HC2 HO2 HA2 HB2 h2 f2 sz
              go_wp2_with fail
              go_roundw
              case rel => exact ⟨k + 1, _, _, by omega, by go_num, good_ack GG.out, all_step GG.out HS.out, HW.out, HC.out, HO.out, HA.out, HB.out⟩
              case measure => simp [intOf]; omega
            · obtain rfl : s3 = 16 := by have := HS.out; omega
              go_wp2_with fail
              refine (size_any g _ _ _ _ _ HW.out).mono ?_
              rintro e _ ⟨rfl, rfl⟩
              go_wp2_with fail
              refine (size_any gc _ _ _ _ _ HC.out).mono ?_
              rintro e _ ⟨rfl, rfl⟩
              have ex2 := EX2.out
              go_wp2_with fail
              refine (size_any g1 _ _ _ _ _ HO.out).mono ?_
              rintro e _ ⟨rfl, rfl⟩
              go_wp2_with fail
              refine (size_any g2 _ _ _ _ _ HA.out).mono ?_
              rintro e _ ⟨rfl, rfl⟩
              go_wp2_with fail
              refine (wakes_any _).mono ?_
              rintro e w9 ⟨rfl, hb2⟩
              have HB2 := Lib.hid (Frm.below HB.out (Frm.of_below (S := fun _ => False) hb2) sz (by rintro i ⟨⟩))
              clear hb2
              go_wp2_with fail
              go_ret
              exact ⟨rfl, HB2.out⟩

/-! ### THE ROW's STEP: WRITTEN OUT: LEAVE IT -/
set_option maxRecDepth 100000 in
theorem lifted (os : Os) (started : os.Started) (H : Type) (enc : TypeId × Value → H) :
    ReturnsInHanded {} Try.checked os 5 .any (Rows.cwndStepsSpec.pre6 enc Try.prog Try.f5 Rows.cwndStepsRow.domain false) (Rows.cwndStepsSpec.post enc Try.prog Try.f5 false true false false) := by
  refine returnsInHanded_of_change (C := Try.checked) own started (by kernel_rfl) Try.func5
    (ChangeSpec.witness6 (enc := enc) (C := Try.checked) false ⟨#[], #[.int .i64 0, .int .i64 0], []⟩ 8 (by kernel_rfl) (by kernel_rfl) (by kernel_rfl) (by kernel_rfl)) ?_
  intro W base args ds gs before hval0 hW hcnd _
  have hval : ∀ (j : Nat) t v, Try.f5.params[j]? = some t → args[j]? = some v → Value.okWide Try.prog W .any base t v := hval0
  have hW' := hW
  obtain ⟨p, q, hA0, hV, rfl, hfz, hnd⟩ := hW
  have hA : DataW.TrodAll enc Try.prog W 0 (fun _ => true) true Try.f5.params.toList args.toList ds p := hA0
  rw [Try.params5] at hA hval
  obtain ⟨v0, vs0, d0, ds0, p0, q0, hargs, rfl, rfl, h0, r0⟩ := trodAll_cons hA
  obtain ⟨v1, vs1, d1, ds1, p1, q1, rfl, rfl, rfl, h1, r1⟩ := trodAll_cons r0
  obtain ⟨rfl, rfl, rfl⟩ := trodAll_nil r1
  obtain rfl : args = #[v0, v1] := by cases args; simp_all
  obtain ⟨rfl, rfl⟩ := trodVars_none hV
  obtain ⟨a0, rfl, rfl, rfl, w0⟩ := open_int Try.underlying3 (hval 0 3 v0 rfl rfl) h0
  obtain ⟨a1, rfl, rfl, rfl, w1⟩ := open_int Try.underlying3 (hval 1 3 v1 rfl rfl) h1
  clear hA0 hval0
  simp only [List.append_nil] at hW'
  refine (walk a0 a1 w0 w1 W).mono fun e W' ⟨he, bel⟩ => ?_
  subst he
  exact ⟨_, rfl, _, _, _, [], _, [], hW', trodAll_mk1 (shut_bool Try.underlying4 _), (trodAll_cons_mk (shut_int Try.underlying3 w0) (trodAll_cons_mk (shut_int Try.underlying3 w1) trodAll_mk0)), rfl, bel.frame _, fun h => by cases h⟩

theorem over : Rows.cwndStepsRow.holds Try.pinned (OpenSpec.ofChange Rows.cwndStepsSpec) :=
  OpenClaim.holds_of_wide 5 Try.f5 rfl rfl rfl rfl rfl rfl rfl ⟨rfl, rfl, rfl, rfl, rfl⟩ rfl rfl rfl rfl rfl (by kernel_rfl) Try.func5 (by kernel_rfl)
    (of_decide_eq_true (by kernel_rfl)) (by unfold Func.isWrapper; first | (rw [if_pos (by decide +kernel)]; kernel_rfl) | (rw [if_neg (by decide +kernel)]; exact ⟨rfl, rfl⟩))
    (fun os started H enc _ => lifted os started H enc)

/-- ████ THE STATEMENT ████ -/
theorem proved : Rows.CwndStepsSaid :=
  over
#print axioms proved
end Go.Proofs.Ytkakldfdejklpaa.cwndSteps
