/- Proved: CwndPlays returns true for every input, and leaves its arguments as they were; no further condition.
   The frame around the walk was written by the guide's proof-skeleton program. -/
import Derived.Test.YtkakldfdejklpaaRows
import Derived.Test.YtkakldfdejklpaaWk
import Derived.Test.YtkakldfdejklpaaInv
import Derived.Test.YtkakldfdejklpaaRef
import Derived.WalkKit
import Derived.ProofKit
import Derived.OpenShut
import Derived.ShutString
import Derived.ChangeOld
import Derived.Below
namespace Go.Proofs.Ytkakldfdejklpaa.cwndPlays
open Go.ChangeShapes Go.WideShapes Go.ChangeAt Go.RowKit
open Go.ChangeMaps (open_string shut_string)
set_option linter.unusedVariables false

theorem own : ownKnob Try.prog.godebug = none := by kernel_rfl
theorem laidOut : laidOutB Try.prog = true := by kernel_rfl

/-- WHAT THE WALK IS TOLD OF A SLICE OF INTEGERS THAT CAME IN: it is nil; or it leads to a row of 'cap' cells, the numbers 'zs' (the first 'len' are its elements, the rest its spare room), each fitting its kind. -/
def IsRow (k : IntKind) (w : World) (a : Option Addr) (len cap : Nat) (zs : List Int) : Prop :=
  (a = none ∧ len = 0 ∧ cap = 0 ∧ zs = []) ∨
  ∃ x, a = some x ∧ len ≤ cap ∧ cap ≤ maxLen ∧ zs.length = cap ∧ (∀ i, i < zs.length → w.cell? (x.add i) = some (.int k (zs.getD i 0))) ∧ ∀ n ∈ zs, (Lit.int k n).wf = true

/-! ### STEP 1: THE WALK: the Go text returns true, AND WRITES NOTHING THAT WAS THERE: 'Below w.heap.size w w'' (Derived/Below.lean: '.refl', '.alloc', '.drew', '.setCell' at a new block, '.trans'). Open each 'IsRow' by 'rcases' AHEAD of 'go_enter'; part every test ahead of the walk. -/
set_option maxHeartbeats 8000000 in
set_option maxRecDepth 100000 in
theorem walk (a0 : Int) (a1 : Option Addr) (len1 cap1 : Nat) (z1 : List Int) (a2 : Int) (w : World) (w0 : (Lit.int .i64 a0).wf = true) (w1 : IsRow .i64 w a1 len1 cap1 z1) (w2 : (Lit.int .i64 a2).wf = true) :
    Calls Try.prog 6 #[.int .i64 a0, .slice a1 len1 cap1, .int .i64 a2] w fun e w' => e = .returned (.bool true) ∧ Below w.heap.size w w' := by
  have hlen : len1 ≤ 9223372036854775807 := by
    rcases w1 with ⟨_, h, _⟩ | ⟨_, _, h, h', _⟩
    · omega
    · unfold maxLen at h'; omega
  obtain ⟨p, hp⟩ : ∃ p, p = a2 % 20 := ⟨_, rfl⟩
  have p0 : 0 ≤ p := by omega
  have p20 : p < 20 := by omega
  have HP := Lib.hid hp
  have W1 := Lib.hid w1
  clear w1 w0 hp w2
  have b1 : -5 < a0.tmod 5 := by rw [Int.tmod_eq_emod]; split <;> omega
  have b2 : a0.tmod 5 < 5 := by rw [Int.tmod_eq_emod]; split <;> omega
  by_cases h5 : (a0.tmod 5 == 4) = true
  · go_enter Try.func6, Try.ntmps6
    obtain ⟨m, hm⟩ : ∃ m, m = mn (mx (a0) 1) 16 := ⟨_, rfl⟩
    have G := good_any (a0)
    rw [← hm] at G
    have HM := Lib.hid hm
    clear hm
    go_wp2_with fail
    refine (new_any (a0) _).mono ?_
    rintro e w1 ⟨g, rfl, hg, hw, hb⟩
    rw [← HM.out] at hw
    have HG := Lib.hid G
    have HW := Lib.hid hw
    have HB := Lib.hid hb
    clear G hw hb
    go_wp2_with fail
    refine (refnew_any (a0) _).mono ?_
    rintro e w2 ⟨gr, rfl, hgr', hr, hb2⟩
    rw [← HM.out] at hr
    have n1 : g ≠ gr := by have := HW.out.lt; omega
    have sz := HB.out.size
    have hgr : w.heap.size ≤ gr := Nat.le_trans sz hgr'
    have HR := Lib.hid hr
    have HW2 := Lib.hid (Blk.below HW.out hb2)
    have HB2 := Lib.hid (Frm.below HB.out (Frm.of_below (S := fun _ => False) hb2) sz (by rintro i ⟨⟩))
    clear HW HB hr hb2 hgr' sz
    go_wp2_with fail
    go_loopw [9] (fun i wr => ∃ (k : Nat) (s t c : Int), k ≤ len1 ∧ k ≤ 60 ∧ i = .int .i64 k ∧ Good m s t c ∧ (s < t → c = 0) ∧ Win wr g m s t c ∧ Rwin wr gr m s t c ∧ Below w.heap.size w wr) (fun i _ => 60 - (intOf i).toNat)
    case atStart => exact ⟨0, _, _, _, Nat.zero_le _, by omega, rfl, HG.out, fun _ => rfl, HW2.out, HR.out, HB2.out⟩
    case round =>
      clear HW2 HB2 HG HR
      obtain ⟨k, s, t, c, hk, hk40, rfl, G, hz, hw, hr, hb⟩ := hrel
      have GG := Lib.hid G
      have Z := Lib.hid hz
      have HW := Lib.hid hw
      have HR := Lib.hid hr
      have HB := Lib.hid hb
      have s1 := G.s1
      have sm := G.sm
      have m16 := G.m16
      have c0 := G.c0
      have cs := G.cs
      clear G hz hw hr hb
      have sz := HB.out.size
      by_cases hin : k < len1 ∧ k < 60
      · obtain ⟨hlt, h40⟩ := hin
        rcases W1.out with ⟨_, h, _⟩ | ⟨x, hx, _, h', hz, hc, _⟩
        · omega
        · obtain ⟨z, hcx⟩ : ∃ z : Int, wr.cell? (x.add k) = some (.int .i64 z) := ⟨_, ((HB.out.cell (World.block_lt_of_cell? w _ (hc k (by omega)))).trans (hc k (by omega)))⟩
          subst hx
          clear hc hz h'
          go_wp2_with fail
          refine (within_any z 9 _ (by omega) (by omega)).mono ?_
          rintro e _ ⟨rfl, rfl⟩
          obtain ⟨y, hy⟩ : ∃ y, y = z % 9 := ⟨_, rfl⟩
          have hy9 : y = 0 ∨ y = 1 ∨ y = 2 ∨ y = 3 ∨ y = 4 ∨ y = 5 ∨ y = 6 ∨ y = 7 ∨ y = 8 := by omega
          rw [← hy]
          clear hy hcx
          rcases hy9 with rfl | rfl | rfl | rfl | rfl | rfl | rfl | rfl | rfl
          iterate 7 (
            · go_wp2_with fail
              refine (ack_any g _ _ _ _ _ HW.out (by omega) (by omega) (by omega) (by omega)).mono ?_
              rintro e w2 ⟨rfl, h2, f2⟩
              have b2 := Lib.hid (Frm.below HB.out f2 sz (by rintro i rfl; exact hg))
              have r1 := Lib.hid (Blk.frm HR.out f2 (fun e => n1 e.symm))
              have h2' := Lib.hid h2
              clear h2 f2 HW HR HB sz
              go_wp2_with fail
              refine (refack_any gr _ _ _ _ _ r1.out (by omega) (by omega) (by omega) (by omega)).mono ?_
              rintro e w3 ⟨rfl, h3, f3⟩
              have sz := b2.out.size
              have H2 := Lib.hid (Blk.frm h2'.out f3 n1)
              rw [rackC_eq Z.out] at h3
              have HR2 := Lib.hid h3
              have HB2 := Lib.hid (Frm.below b2.out f3 sz (by rintro i rfl; exact hgr))
              have GG2 := Lib.hid (good_ack GG.out)
              have Z2 := Lib.hid (zero_ack GG.out Z.out)
              clear h3 f3 r1 b2 h2' GG Z
              generalize ackS m s t c = s' at *
              generalize ackC s t c = c' at *

              go_wp2_with fail
              refine (within_any a2 20 _ (by omega) (by omega)).mono ?_
              rintro e _ ⟨rfl, rfl⟩
              rw [← HP.out]
              go_wp2_with fail
              have d1 := HR2.out.cell 1
              simp at d1
              go_quiet (first | (go_at_call 9; exact Calls.quiet_of_same (size_q g _ _ _ _ _ (Blk.drewN H2.out _))) | (go_at_call 12; exact Calls.quiet_of_same (room_q g _ _ _ _ _ _ (Blk.drewN H2.out _))))
              clear d1
              go_wp2_with fail
              go_roundw
              case rel => exact ⟨k + 1, _, _, _, by omega, by omega, by go_num, GG2.out, Z2.out, Blk.drewN H2.out _, Blk.drewN HR2.out _, Below.drewN' HB2.out _⟩
              case measure => simp [intOf]; omega)
          · go_wp2_with fail
            refine (loss_any g _ _ _ _ _ HW.out (by omega) (by omega)).mono ?_
            rintro e w2 ⟨rfl, h2, f2⟩
            have b2 := Lib.hid (Frm.below HB.out f2 sz (by rintro i rfl; exact hg))
            have r1 := Lib.hid (Blk.frm HR.out f2 (fun e => n1 e.symm))
            have h2' := Lib.hid h2
            clear h2 f2 HW HR HB sz
            go_wp2_with fail
            refine (refloss_any gr _ _ _ _ _ r1.out (by omega) (by omega)).mono ?_
            rintro e w3 ⟨rfl, h3, f3⟩
            have sz := b2.out.size
            have H2 := Lib.hid (Blk.frm h2'.out f3 n1)
            have HR2 := Lib.hid h3
            have HB2 := Lib.hid (Frm.below b2.out f3 sz (by rintro i rfl; exact hgr))
            have GG2 := Lib.hid (good_loss GG.out)
            clear h3 f3 r1 b2 h2' GG Z
            generalize mx (s / 2) 1 = s' at *

            go_wp2_with fail
            refine (within_any a2 20 _ (by omega) (by omega)).mono ?_
            rintro e _ ⟨rfl, rfl⟩
            rw [← HP.out]
            go_wp2_with fail
            have d1 := HR2.out.cell 1
            simp at d1
            go_quiet (first | (go_at_call 9; exact Calls.quiet_of_same (size_q g _ _ _ _ _ (Blk.drewN H2.out _))) | (go_at_call 12; exact Calls.quiet_of_same (room_q g _ _ _ _ _ _ (Blk.drewN H2.out _))))
            clear d1
            go_wp2_with fail
            go_roundw
            case rel => exact ⟨k + 1, _, _, _, by omega, by omega, by go_num, GG2.out, fun _ => rfl, Blk.drewN H2.out _, Blk.drewN HR2.out _, Below.drewN' HB2.out _⟩
            case measure => simp [intOf]; omega
          · go_wp2_with fail
            refine (clone_any g _ _ _ _ _ HW.out).mono ?_
            rintro e w4 ⟨gc, rfl, hgc, hc, hb4⟩
            have n2 : g ≠ gc := by have := HW.out.lt; omega
            have n3 : gr ≠ gc := by have := HR.out.lt; omega
            have hgc' : w.heap.size ≤ gc := Nat.le_trans sz hgc
            have HC := Lib.hid hc
            have H1 := Lib.hid (Blk.below HW.out hb4)
            have HR1 := Lib.hid (Blk.below HR.out hb4)
            have HB1 := Lib.hid (Frm.below HB.out (Frm.of_below (S := fun _ => False) hb4) sz (by rintro i ⟨⟩))
            clear HW HR HB hc hb4 hgc sz
            go_wp2_with fail
            refine (ack_any gc _ _ _ _ _ HC.out (by omega) (by omega) (by omega) (by omega)).mono ?_
            rintro e w5 ⟨rfl, h2, f2⟩
            have sz := HB1.out.size
            have G5 := good_ack GG.out
            have HC2 := Lib.hid h2
            have H5 := Lib.hid (Blk.frm H1.out f2 n2)
            have HR5 := Lib.hid (Blk.frm HR1.out f2 n3)
            have HB5 := Lib.hid (Frm.below HB1.out f2 sz (by rintro i rfl; exact hgc'))
            clear H1 HR1 HB1 h2 f2 sz HC
            generalize ackS m s t c = s5 at *
            generalize ackC s t c = c5 at *
            have u1 := G5.s1
            have u2 := G5.sm
            clear G5
            go_wp2_with fail
            refine (loss_any gc _ _ _ _ _ HC2.out (by omega) (by omega)).mono ?_
            rintro e w6 ⟨rfl, h2, f2⟩
            have sz := HB5.out.size
            have H2 := Lib.hid (Blk.frm H5.out f2 n2)
            have HR2 := Lib.hid (Blk.frm HR5.out f2 n3)
            have HB2 := Lib.hid (Frm.below HB5.out f2 sz (by rintro i rfl; exact hgc'))
            have GG2 := GG
            have Z2 := Z
            clear H5 HR5 HB5 h2 f2 HC2 GG Z

            go_wp2_with fail
            refine (within_any a2 20 _ (by omega) (by omega)).mono ?_
            rintro e _ ⟨rfl, rfl⟩
            rw [← HP.out]
            go_wp2_with fail
            have d1 := HR2.out.cell 1
            simp at d1
            go_quiet (first | (go_at_call 9; exact Calls.quiet_of_same (size_q g _ _ _ _ _ (Blk.drewN H2.out _))) | (go_at_call 12; exact Calls.quiet_of_same (room_q g _ _ _ _ _ _ (Blk.drewN H2.out _))))
            clear d1
            go_wp2_with fail
            go_roundw
            case rel => exact ⟨k + 1, _, _, _, by omega, by omega, by go_num, GG2.out, Z2.out, Blk.drewN H2.out _, Blk.drewN HR2.out _, Below.drewN' HB2.out _⟩
            case measure => simp [intOf]; omega
      · have nin : ¬ (k < len1) ∨ (k < len1 ∧ ¬ k < 60) := by omega
        clear hin
        rcases nin with hlt | ⟨hlt, h40⟩
        all_goals
          go_wp2_with fail
          refine (wakes_any _).mono ?_
          rintro e w2 ⟨rfl, hb2⟩
          have HB2 := Lib.hid (Frm.below HB.out (Frm.of_below (S := fun _ => False) hb2) sz (by rintro i ⟨⟩))
          clear hb2
          go_wp2_with fail
          go_ret
          exact ⟨rfl, HB2.out⟩

  · replace h5 : (a0.tmod 5 == 4) = false := by simpa using h5
    obtain ⟨q, hq⟩ : ∃ q, q = a0 % 20 := ⟨_, rfl⟩
    have q0 : 0 ≤ q := by omega
    have q20 : q < 20 := by omega
    have HQ := Lib.hid hq
    clear hq
    go_enter Try.func6, Try.ntmps6
    go_wp2_with fail
    refine (within_any a0 20 w (by omega) (by omega)).mono ?_
    rintro e _ ⟨rfl, rfl⟩
    rw [← HQ.out]
    obtain ⟨m, hm⟩ : ∃ m, m = mn (mx (q - 1) 1) 16 := ⟨_, rfl⟩
    have G := good_any (q - 1)
    rw [← hm] at G
    have HM := Lib.hid hm
    clear hm
    go_wp2_with fail
    refine (new_any (q - 1) _).mono ?_
    rintro e w1 ⟨g, rfl, hg, hw, hb⟩
    rw [← HM.out] at hw
    have HG := Lib.hid G
    have HW := Lib.hid hw
    have HB := Lib.hid hb
    clear G hw hb
    go_wp2_with fail
    refine (refnew_any (q - 1) _).mono ?_
    rintro e w2 ⟨gr, rfl, hgr', hr, hb2⟩
    rw [← HM.out] at hr
    have n1 : g ≠ gr := by have := HW.out.lt; omega
    have sz := HB.out.size
    have hgr : w.heap.size ≤ gr := Nat.le_trans sz hgr'
    have HR := Lib.hid hr
    have HW2 := Lib.hid (Blk.below HW.out hb2)
    have HB2 := Lib.hid (Frm.below HB.out (Frm.of_below (S := fun _ => False) hb2) sz (by rintro i ⟨⟩))
    clear HW HB hr hb2 hgr' sz
    go_wp2_with fail
    go_loopw [9] (fun i wr => ∃ (k : Nat) (s t c : Int), k ≤ len1 ∧ k ≤ 60 ∧ i = .int .i64 k ∧ Good m s t c ∧ (s < t → c = 0) ∧ Win wr g m s t c ∧ Rwin wr gr m s t c ∧ Below w.heap.size w wr) (fun i _ => 60 - (intOf i).toNat)
    case atStart => exact ⟨0, _, _, _, Nat.zero_le _, by omega, rfl, HG.out, fun _ => rfl, HW2.out, HR.out, HB2.out⟩
    case round =>
      clear HW2 HB2 HG HR
      obtain ⟨k, s, t, c, hk, hk40, rfl, G, hz, hw, hr, hb⟩ := hrel
      have GG := Lib.hid G
      have Z := Lib.hid hz
      have HW := Lib.hid hw
      have HR := Lib.hid hr
      have HB := Lib.hid hb
      have s1 := G.s1
      have sm := G.sm
      have m16 := G.m16
      have c0 := G.c0
      have cs := G.cs
      clear G hz hw hr hb
      have sz := HB.out.size
      by_cases hin : k < len1 ∧ k < 60
      · obtain ⟨hlt, h40⟩ := hin
        rcases W1.out with ⟨_, h, _⟩ | ⟨x, hx, _, h', hz, hc, _⟩
        · omega
        · obtain ⟨z, hcx⟩ : ∃ z : Int, wr.cell? (x.add k) = some (.int .i64 z) := ⟨_, ((HB.out.cell (World.block_lt_of_cell? w _ (hc k (by omega)))).trans (hc k (by omega)))⟩
          subst hx
          clear hc hz h'
          go_wp2_with fail
          refine (within_any z 9 _ (by omega) (by omega)).mono ?_
          rintro e _ ⟨rfl, rfl⟩
          obtain ⟨y, hy⟩ : ∃ y, y = z % 9 := ⟨_, rfl⟩
          have hy9 : y = 0 ∨ y = 1 ∨ y = 2 ∨ y = 3 ∨ y = 4 ∨ y = 5 ∨ y = 6 ∨ y = 7 ∨ y = 8 := by omega
          rw [← hy]
          clear hy hcx
          rcases hy9 with rfl | rfl | rfl | rfl | rfl | rfl | rfl | rfl | rfl
          iterate 7 (
            · go_wp2_with fail
              refine (ack_any g _ _ _ _ _ HW.out (by omega) (by omega) (by omega) (by omega)).mono ?_
              rintro e w2 ⟨rfl, h2, f2⟩
              have b2 := Lib.hid (Frm.below HB.out f2 sz (by rintro i rfl; exact hg))
              have r1 := Lib.hid (Blk.frm HR.out f2 (fun e => n1 e.symm))
              have h2' := Lib.hid h2
              clear h2 f2 HW HR HB sz
              go_wp2_with fail
              refine (refack_any gr _ _ _ _ _ r1.out (by omega) (by omega) (by omega) (by omega)).mono ?_
              rintro e w3 ⟨rfl, h3, f3⟩
              have sz := b2.out.size
              have H2 := Lib.hid (Blk.frm h2'.out f3 n1)
              rw [rackC_eq Z.out] at h3
              have HR2 := Lib.hid h3
              have HB2 := Lib.hid (Frm.below b2.out f3 sz (by rintro i rfl; exact hgr))
              have GG2 := Lib.hid (good_ack GG.out)
              have Z2 := Lib.hid (zero_ack GG.out Z.out)
              clear h3 f3 r1 b2 h2' GG Z
              generalize ackS m s t c = s' at *
              generalize ackC s t c = c' at *

              go_wp2_with fail
              refine (within_any a2 20 _ (by omega) (by omega)).mono ?_
              rintro e _ ⟨rfl, rfl⟩
              rw [← HP.out]
              go_wp2_with fail
              have d1 := HR2.out.cell 1
              simp at d1
              go_quiet (first | (go_at_call 9; exact Calls.quiet_of_same (size_q g _ _ _ _ _ (Blk.drewN H2.out _))) | (go_at_call 12; exact Calls.quiet_of_same (room_q g _ _ _ _ _ _ (Blk.drewN H2.out _))))
              clear d1
              go_wp2_with fail
              go_roundw
              case rel => exact ⟨k + 1, _, _, _, by omega, by omega, by go_num, GG2.out, Z2.out, Blk.drewN H2.out _, Blk.drewN HR2.out _, Below.drewN' HB2.out _⟩
              case measure => simp [intOf]; omega)
          · go_wp2_with fail
            refine (loss_any g _ _ _ _ _ HW.out (by omega) (by omega)).mono ?_
            rintro e w2 ⟨rfl, h2, f2⟩
            have b2 := Lib.hid (Frm.below HB.out f2 sz (by rintro i rfl; exact hg))
            have r1 := Lib.hid (Blk.frm HR.out f2 (fun e => n1 e.symm))
            have h2' := Lib.hid h2
            clear h2 f2 HW HR HB sz
            go_wp2_with fail
            refine (refloss_any gr _ _ _ _ _ r1.out (by omega) (by omega)).mono ?_
            rintro e w3 ⟨rfl, h3, f3⟩
            have sz := b2.out.size
            have H2 := Lib.hid (Blk.frm h2'.out f3 n1)
            have HR2 := Lib.hid h3
            have HB2 := Lib.hid (Frm.below b2.out f3 sz (by rintro i rfl; exact hgr))
            have GG2 := Lib.hid (good_loss GG.out)
            clear h3 f3 r1 b2 h2' GG Z
            generalize mx (s / 2) 1 = s' at *

            go_wp2_with fail
            refine (within_any a2 20 _ (by omega) (by omega)).mono ?_
            rintro e _ ⟨rfl, rfl⟩
            rw [← HP.out]
            go_wp2_with fail
            have d1 := HR2.out.cell 1
            simp at d1
            go_quiet (first | (go_at_call 9; exact Calls.quiet_of_same (size_q g _ _ _ _ _ (Blk.drewN H2.out _))) | (go_at_call 12; exact Calls.quiet_of_same (room_q g _ _ _ _ _ _ (Blk.drewN H2.out _))))
            clear d1
            go_wp2_with fail
            go_roundw
            case rel => exact ⟨k + 1, _, _, _, by omega, by omega, by go_num, GG2.out, fun _ => rfl, Blk.drewN H2.out _, Blk.drewN HR2.out _, Below.drewN' HB2.out _⟩
            case measure => simp [intOf]; omega
          · go_wp2_with fail
            refine (clone_any g _ _ _ _ _ HW.out).mono ?_
            rintro e w4 ⟨gc, rfl, hgc, hc, hb4⟩
            have n2 : g ≠ gc := by have := HW.out.lt; omega
            have n3 : gr ≠ gc := by have := HR.out.lt; omega
            have hgc' : w.heap.size ≤ gc := Nat.le_trans sz hgc
            have HC := Lib.hid hc
            have H1 := Lib.hid (Blk.below HW.out hb4)
            have HR1 := Lib.hid (Blk.below HR.out hb4)
            have HB1 := Lib.hid (Frm.below HB.out (Frm.of_below (S := fun _ => False) hb4) sz (by rintro i ⟨⟩))
            clear HW HR HB hc hb4 hgc sz
            go_wp2_with fail
            refine (ack_any gc _ _ _ _ _ HC.out (by omega) (by omega) (by omega) (by omega)).mono ?_
            rintro e w5 ⟨rfl, h2, f2⟩
            have sz := HB1.out.size
            have G5 := good_ack GG.out
            have HC2 := Lib.hid h2
            have H5 := Lib.hid (Blk.frm H1.out f2 n2)
            have HR5 := Lib.hid (Blk.frm HR1.out f2 n3)
            have HB5 := Lib.hid (Frm.below HB1.out f2 sz (by rintro i rfl; exact hgc'))
            clear H1 HR1 HB1 h2 f2 sz HC
            generalize ackS m s t c = s5 at *
            generalize ackC s t c = c5 at *
            have u1 := G5.s1
            have u2 := G5.sm
            clear G5
            go_wp2_with fail
            refine (loss_any gc _ _ _ _ _ HC2.out (by omega) (by omega)).mono ?_
            rintro e w6 ⟨rfl, h2, f2⟩
            have sz := HB5.out.size
            have H2 := Lib.hid (Blk.frm H5.out f2 n2)
            have HR2 := Lib.hid (Blk.frm HR5.out f2 n3)
            have HB2 := Lib.hid (Frm.below HB5.out f2 sz (by rintro i rfl; exact hgc'))
            have GG2 := GG
            have Z2 := Z
            clear H5 HR5 HB5 h2 f2 HC2 GG Z

            go_wp2_with fail
            refine (within_any a2 20 _ (by omega) (by omega)).mono ?_
            rintro e _ ⟨rfl, rfl⟩
            rw [← HP.out]
            go_wp2_with fail
            have d1 := HR2.out.cell 1
            simp at d1
            go_quiet (first | (go_at_call 9; exact Calls.quiet_of_same (size_q g _ _ _ _ _ (Blk.drewN H2.out _))) | (go_at_call 12; exact Calls.quiet_of_same (room_q g _ _ _ _ _ _ (Blk.drewN H2.out _))))
            clear d1
            go_wp2_with fail
            go_roundw
            case rel => exact ⟨k + 1, _, _, _, by omega, by omega, by go_num, GG2.out, Z2.out, Blk.drewN H2.out _, Blk.drewN HR2.out _, Below.drewN' HB2.out _⟩
            case measure => simp [intOf]; omega
      · have nin : ¬ (k < len1) ∨ (k < len1 ∧ ¬ k < 60) := by omega
        clear hin
        rcases nin with hlt | ⟨hlt, h40⟩
        all_goals
          go_wp2_with fail
          refine (wakes_any _).mono ?_
          rintro e w2 ⟨rfl, hb2⟩
          have HB2 := Lib.hid (Frm.below HB.out (Frm.of_below (S := fun _ => False) hb2) sz (by rintro i ⟨⟩))
          clear hb2
          go_wp2_with fail
          go_ret
          exact ⟨rfl, HB2.out⟩

/-! ### THE ROW's STEP: WRITTEN OUT: LEAVE IT -/
set_option maxRecDepth 100000 in
theorem lifted (os : Os) (started : os.Started) (H : Type) (enc : TypeId × Value → H) :
    ReturnsInHanded {} Try.checked os 6 .any (Rows.cwndPlaysSpec.pre6 enc Try.prog Try.f6 Rows.cwndPlaysRow.domain false) (Rows.cwndPlaysSpec.post enc Try.prog Try.f6 false true false false) := by
  refine returnsInHanded_of_change (C := Try.checked) own started (by kernel_rfl) Try.func6
    (ChangeSpec.witness6 (enc := enc) (C := Try.checked) false ⟨#[], #[.int .i64 0, .slice none 0 0, .int .i64 0], []⟩ 8 (by kernel_rfl) (by kernel_rfl) (by kernel_rfl) (by kernel_rfl)) ?_
  intro W base args ds gs before hval0 hW hcnd _
  have hval : ∀ (j : Nat) t v, Try.f6.params[j]? = some t → args[j]? = some v → Value.okWide Try.prog W .any base t v := hval0
  have hW' := hW
  obtain ⟨p, q, hA0, hV, rfl, hfz, hnd⟩ := hW
  have hA : DataW.TrodAll enc Try.prog W 0 (fun _ => true) true Try.f6.params.toList args.toList ds p := hA0
  rw [Try.params6] at hA hval
  obtain ⟨v0, vs0, d0, ds0, p0, q0, hargs, rfl, rfl, h0, r0⟩ := trodAll_cons hA
  obtain ⟨v1, vs1, d1, ds1, p1, q1, rfl, rfl, rfl, h1, r1⟩ := trodAll_cons r0
  obtain ⟨v2, vs2, d2, ds2, p2, q2, rfl, rfl, rfl, h2, r2⟩ := trodAll_cons r1
  obtain ⟨rfl, rfl, rfl⟩ := trodAll_nil r2
  obtain rfl : args = #[v0, v1, v2] := by cases args; simp_all
  obtain ⟨rfl, rfl⟩ := trodVars_none hV
  obtain ⟨a0, rfl, rfl, rfl, w0⟩ := open_int Try.underlying3 (hval 0 3 v0 rfl rfl) h0
  obtain ⟨a1, len1, cap1, rfl⟩ := okWide_slice Try.underlying22 (hval 1 22 v1 rfl rfl)
  have k1 := h1
  have lt1 : ∀ x ∈ p1, x.block < W.heap.size := by obtain ⟨m, hm⟩ := k1; exact DataW.trod_lt m _ _ _ hm
  obtain ⟨z1, w1⟩ : ∃ zs, IsRow .i64 W a1 len1 cap1 zs := by
    obtain ⟨fuel, hf⟩ := h1
    rcases open_ints Try.underlying22 Try.underlying3 (by kernel_rfl) hf with ⟨hcs, _⟩ | ⟨x, l, c, zs, hcs, _, hl, hm, hz, _, hcell, hwz⟩
    · simp [Value.cells] at hcs
      obtain ⟨rfl, rfl, rfl⟩ := hcs
      exact ⟨[], .inl ⟨rfl, rfl, rfl, rfl⟩⟩
    · simp [Value.cells] at hcs
      obtain ⟨rfl, rfl, rfl⟩ := hcs
      exact ⟨zs, .inr ⟨_, rfl, hl, hm, by simpa using hz, hcell, hwz⟩⟩
  obtain ⟨a2, rfl, rfl, rfl, w2⟩ := open_int Try.underlying3 (hval 2 3 v2 rfl rfl) h2
  clear hA0 hval0
  refine (walk a0 a1 len1 cap1 z1 a2 W w0 w1 w2).mono fun e W' ⟨he, bel⟩ => ?_
  subst he
  exact ⟨_, rfl, _, _, _, [], _, [], hW', trodAll_mk1 (shut_bool Try.underlying4 _), (trodAll_cons_mk (shut_int Try.underlying3 w0) (trodAll_cons_mk (Below.trod laidOut (by kernel_rfl) (of_decide_eq_true (by kernel_rfl)) k1 bel lt1) (trodAll_cons_mk (shut_int Try.underlying3 w2) trodAll_mk0))), rfl, bel.frame _, fun h => by cases h⟩

theorem over : Rows.cwndPlaysRow.holds Try.pinned (OpenSpec.ofChange Rows.cwndPlaysSpec) :=
  OpenClaim.holds_of_wide 6 Try.f6 rfl rfl rfl rfl rfl rfl rfl ⟨rfl, rfl, rfl, rfl, rfl⟩ rfl rfl rfl rfl rfl (by kernel_rfl) Try.func6 (by kernel_rfl)
    (of_decide_eq_true (by kernel_rfl)) (by unfold Func.isWrapper; first | (rw [if_pos (by decide +kernel)]; kernel_rfl) | (rw [if_neg (by decide +kernel)]; exact ⟨rfl, rfl⟩))
    (fun os started H enc _ => lifted os started H enc)

/-- ████ THE STATEMENT ████ -/
theorem proved : Rows.CwndPlaysSaid := over
#print axioms proved
end Go.Proofs.Ytkakldfdejklpaa.cwndPlays
