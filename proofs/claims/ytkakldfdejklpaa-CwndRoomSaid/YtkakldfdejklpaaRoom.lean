/- Proved: CwndRoom returns true for every input, and leaves its arguments as they were; no further condition.
   The frame around the walk was written by the guide's proof-skeleton program. -/
import Derived.Test.YtkakldfdejklpaaRows
import Derived.Test.YtkakldfdejklpaaWk
import Derived.Test.YtkakldfdejklpaaInv
import Derived.WalkKit
import Derived.ProofKit
import Derived.OpenShut
import Derived.ShutString
import Derived.ChangeOld
import Derived.Below
namespace Go.Proofs.Ytkakldfdejklpaa.cwndRoom
open Go.ChangeShapes Go.WideShapes Go.ChangeAt Go.RowKit
open Go.ChangeMaps (open_string shut_string)
set_option linter.unusedVariables false

theorem own : ownKnob Try.prog.godebug = none := by kernel_rfl
theorem laidOut : laidOutB Try.prog = true := by kernel_rfl

/-- WHAT THE WALK IS TOLD OF A SLICE OF INTEGERS THAT CAME IN: it is nil; or it leads to a row of 'cap' cells, the numbers 'zs' (the first 'len' are its elements, the rest its spare room), each fitting its kind. -/
def IsRow (k : IntKind) (w : World) (a : Option Addr) (len cap : Nat) (zs : List Int) : Prop :=
  (a = none ∧ len = 0 ∧ cap = 0 ∧ zs = []) ∨
  ∃ x, a = some x ∧ len ≤ cap ∧ cap ≤ maxLen ∧ zs.length = cap ∧ (∀ i, i < zs.length → w.cell? (x.add i) = some (.int k (zs.getD i 0))) ∧ ∀ n ∈ zs, (Lit.int k n).wf = true

/-! ### STEP 1: THE WALK: the Go text returns true, AND WRITES NOTHING THAT WAS THERE: 'Below w.heap.size w w'' (Derived/Below.lean: '.refl', '.alloc', '.drew', '.setCell' at a new block, '.trans'). Open each 'IsRow' by 'rcases' AHEAD of 'go_enter'; part every test ahead of the walk. -/
set_option maxHeartbeats 8000000 in
set_option maxRecDepth 100000 in
theorem walk (a0 : Int) (a1 : Option Addr) (len1 cap1 : Nat) (z1 : List Int) (a2 : Int) (w : World) (w0 : (Lit.int .i64 a0).wf = true) (w1 : IsRow .i64 w a1 len1 cap1 z1) (w2 : (Lit.int .i64 a2).wf = true) :
    Calls Try.prog 4 #[.int .i64 a0, .slice a1 len1 cap1, .int .i64 a2] w fun e w' => e = .returned (.bool true) ∧ Below w.heap.size w w' := by
  obtain ⟨q, hq⟩ : ∃ q, q = a0 % 16 := ⟨_, rfl⟩
  have q0 : 0 ≤ q := by omega
  have q16 : q < 16 := by omega
  have hlen : len1 ≤ 9223372036854775807 := by
    rcases w1 with ⟨_, h, _⟩ | ⟨_, _, h, h', _⟩
    · omega
    · unfold maxLen at h'; omega
  have HQ := Lib.hid hq
  have W1 := Lib.hid w1
  clear w1 w0 hq

  obtain ⟨o, ho⟩ : ∃ o, o = a2 % 20 := ⟨_, rfl⟩
  have o0 : 0 ≤ o := by omega
  have o20 : o < 20 := by omega
  have HO := Lib.hid ho
  clear ho w2
  go_enter Try.func4, Try.ntmps4
  go_wp2_with fail
  refine (within_any a0 16 w (by omega) (by omega)).mono ?_
  rintro e _ ⟨rfl, rfl⟩
  rw [← HQ.out]
  go_wp2_with fail
  refine (new_good (1 + q) _ (by omega) (by omega)).mono ?_
  rintro e w1 ⟨g, rfl, hg, G, hw, hb⟩
  have HG := Lib.hid G
  have HW := Lib.hid hw
  have HB := Lib.hid hb
  clear G hw hb
  go_wp2_with fail
  refine (within_any a2 20 _ (by omega) (by omega)).mono ?_
  rintro e _ ⟨rfl, rfl⟩
  rw [← HO.out]
  go_wp2_with fail
  go_loopw [8] (fun i wr => ∃ (k : Nat) (s t c : Int), k ≤ len1 ∧ k ≤ 30 ∧ i = .int .i64 k ∧ Good (1 + q) s t c ∧ Win wr g (1 + q) s t c ∧ Below w.heap.size w wr) (fun i _ => 30 - (intOf i).toNat)
  case atStart => exact ⟨0, _, _, _, Nat.zero_le _, by omega, rfl, HG.out, HW.out, HB.out⟩
  case round =>
    clear HW HB HG
    obtain ⟨k, s, t, c, hk, hk40, rfl, G, hw, hb⟩ := hrel
    have GG := Lib.hid G
    have HW := Lib.hid hw
    have HB := Lib.hid hb
    have s1 := G.s1
    have sm := G.sm
    have c0 := G.c0
    have cs := G.cs
    clear G hw hb
    have sz := HB.out.size
    by_cases hin : k < len1 ∧ k < 30
    · obtain ⟨hlt, h40⟩ := hin
      rcases W1.out with ⟨_, h, _⟩ | ⟨x, hx, _, h', hz, hc, _⟩
      · omega
      · obtain ⟨z, hcx⟩ : ∃ z : Int, wr.cell? (x.add k) = some (.int .i64 z) := ⟨_, ((HB.out.cell (World.block_lt_of_cell? w _ (hc k (by omega)))).trans (hc k (by omega)))⟩
        subst hx
        clear hc hz h'
        have b1 : -3 < z.tmod 3 := by rw [Int.tmod_eq_emod]; split <;> omega
        have b2 : z.tmod 3 < 3 := by rw [Int.tmod_eq_emod]; split <;> omega
        by_cases hd : o < s
        · go_wp2_with fail
          refine (room_yes g _ _ _ _ _ _ HW.out (by omega)).mono ?_
          rintro e _ ⟨rfl, rfl⟩
          by_cases hr : (z.tmod 3 == 0) = true
          · go_wp2_with fail
            refine (loss_any g _ _ _ _ _ HW.out (by omega) (by omega)).mono ?_
            rintro e w2 ⟨rfl, h2, f2⟩
            have G2 := good_loss GG.out
            have bb2 := Frm.below HB.out f2 sz (by rintro i rfl; exact hg)
            obtain ⟨s', hs'⟩ : ∃ s', s' = mx (s / 2) 1 := ⟨_, rfl⟩
            rw [← hs'] at h2 G2
            have es : (if s / 2 < 1 then 1 else s / 2) = s' := hs'.symm
            have p1 := G2.s1
            have p2 := G2.sm
            have H2 := Lib.hid h2
            have GG2 := Lib.hid G2
            have HB2 := Lib.hid bb2
            clear h2 G2 bb2 f2 hs'
            have hso : s' ≤ s := by
              rw [← es]
              split <;> omega
            by_cases ho : o < s'
            · go_wp2_with fail
              refine (room_yes g _ _ _ _ _ _ H2.out (by omega)).mono ?_
              rintro e _ ⟨rfl, rfl⟩
              go_wp2_with fail
              refine (size_any g _ _ _ _ _ H2.out).mono ?_
              rintro e _ ⟨rfl, rfl⟩
              go_wp2_with fail
              refine (room_yes g _ _ _ _ _ _ H2.out (by omega)).mono ?_
              rintro e _ ⟨rfl, rfl⟩
              go_wp2_with fail
              refine (room_no g _ _ _ _ _ _ H2.out (by omega)).mono ?_
              rintro e _ ⟨rfl, rfl⟩
              go_wp2_with fail
              go_roundw
              case rel => exact ⟨k + 1, _, _, _, by omega, by omega, by go_num, GG2.out, H2.out, HB2.out⟩
              case measure => simp [intOf]; omega
            · replace ho : s' ≤ o := by omega
              go_wp2_with fail
              refine (room_no g _ _ _ _ _ _ H2.out (by omega)).mono ?_
              rintro e _ ⟨rfl, rfl⟩
              go_wp2_with fail
              refine (size_any g _ _ _ _ _ H2.out).mono ?_
              rintro e _ ⟨rfl, rfl⟩
              go_wp2_with fail
              refine (room_yes g _ _ _ _ _ _ H2.out (by omega)).mono ?_
              rintro e _ ⟨rfl, rfl⟩
              go_wp2_with fail
              refine (room_no g _ _ _ _ _ _ H2.out (by omega)).mono ?_
              rintro e _ ⟨rfl, rfl⟩
              go_wp2_with fail
              go_roundw
              case rel => exact ⟨k + 1, _, _, _, by omega, by omega, by go_num, GG2.out, H2.out, HB2.out⟩
              case measure => simp [intOf]; omega
          · replace hr : (z.tmod 3 == 0) = false := by simpa using hr
            go_wp2_with fail
            refine (ack_any g _ _ _ _ _ HW.out (by omega) (by omega) (by omega) (by omega)).mono ?_
            rintro e w2 ⟨rfl, h2, f2⟩
            have G2 := good_ack GG.out
            have S2 := ack_step GG.out
            have bb2 := Frm.below HB.out f2 sz (by rintro i rfl; exact hg)
            obtain ⟨s', hs'⟩ : ∃ s', s' = ackS (1 + q) s t c := ⟨_, rfl⟩
            obtain ⟨c', hc'⟩ : ∃ c', c' = ackC s t c := ⟨_, rfl⟩
            rw [← hs'] at h2 G2 S2
            rw [← hc'] at h2 G2
            have p1 := G2.s1
            have p2 := G2.sm
            have H2 := Lib.hid h2
            have GG2 := Lib.hid G2
            have HB2 := Lib.hid bb2
            clear h2 G2 bb2 f2 hs' hc'
            have hso : s ≤ s' := by omega
            clear S2
            have ho : o < s' := by omega
            go_wp2_with fail
            refine (room_yes g _ _ _ _ _ _ H2.out (by omega)).mono ?_
            rintro e _ ⟨rfl, rfl⟩
            go_wp2_with fail
            refine (room_yes g _ _ _ _ _ _ H2.out (by omega)).mono ?_
            rintro e _ ⟨rfl, rfl⟩
            go_wp2_with fail
            refine (size_any g _ _ _ _ _ H2.out).mono ?_
            rintro e _ ⟨rfl, rfl⟩
            go_wp2_with fail
            refine (room_yes g _ _ _ _ _ _ H2.out (by omega)).mono ?_
            rintro e _ ⟨rfl, rfl⟩
            go_wp2_with fail
            refine (room_no g _ _ _ _ _ _ H2.out (by omega)).mono ?_
            rintro e _ ⟨rfl, rfl⟩
            go_wp2_with fail
            go_roundw
            case rel => exact ⟨k + 1, _, _, _, by omega, by omega, by go_num, GG2.out, H2.out, HB2.out⟩
            case measure => simp [intOf]; omega
        · replace hd : s ≤ o := by omega
          go_wp2_with fail
          refine (room_no g _ _ _ _ _ _ HW.out (by omega)).mono ?_
          rintro e _ ⟨rfl, rfl⟩
          by_cases hr : (z.tmod 3 == 0) = true
          · go_wp2_with fail
            refine (loss_any g _ _ _ _ _ HW.out (by omega) (by omega)).mono ?_
            rintro e w2 ⟨rfl, h2, f2⟩
            have G2 := good_loss GG.out
            have bb2 := Frm.below HB.out f2 sz (by rintro i rfl; exact hg)
            obtain ⟨s', hs'⟩ : ∃ s', s' = mx (s / 2) 1 := ⟨_, rfl⟩
            rw [← hs'] at h2 G2
            have es : (if s / 2 < 1 then 1 else s / 2) = s' := hs'.symm
            have p1 := G2.s1
            have p2 := G2.sm
            have H2 := Lib.hid h2
            have GG2 := Lib.hid G2
            have HB2 := Lib.hid bb2
            clear h2 G2 bb2 f2 hs'
            have hso : s' ≤ s := by
              rw [← es]
              split <;> omega
            have ho : s' ≤ o := by omega
            go_wp2_with fail
            refine (room_no g _ _ _ _ _ _ H2.out (by omega)).mono ?_
            rintro e _ ⟨rfl, rfl⟩
            go_wp2_with fail
            refine (room_no g _ _ _ _ _ _ H2.out (by omega)).mono ?_
            rintro e _ ⟨rfl, rfl⟩
            go_wp2_with fail
            refine (size_any g _ _ _ _ _ H2.out).mono ?_
            rintro e _ ⟨rfl, rfl⟩
            go_wp2_with fail
            refine (room_yes g _ _ _ _ _ _ H2.out (by omega)).mono ?_
            rintro e _ ⟨rfl, rfl⟩
            go_wp2_with fail
            refine (room_no g _ _ _ _ _ _ H2.out (by omega)).mono ?_
            rintro e _ ⟨rfl, rfl⟩
            go_wp2_with fail
            go_roundw
            case rel => exact ⟨k + 1, _, _, _, by omega, by omega, by go_num, GG2.out, H2.out, HB2.out⟩
            case measure => simp [intOf]; omega
          · replace hr : (z.tmod 3 == 0) = false := by simpa using hr
            go_wp2_with fail
            refine (ack_any g _ _ _ _ _ HW.out (by omega) (by omega) (by omega) (by omega)).mono ?_
            rintro e w2 ⟨rfl, h2, f2⟩
            have G2 := good_ack GG.out
            have S2 := ack_step GG.out
            have bb2 := Frm.below HB.out f2 sz (by rintro i rfl; exact hg)
            obtain ⟨s', hs'⟩ : ∃ s', s' = ackS (1 + q) s t c := ⟨_, rfl⟩
            obtain ⟨c', hc'⟩ : ∃ c', c' = ackC s t c := ⟨_, rfl⟩
            rw [← hs'] at h2 G2 S2
            rw [← hc'] at h2 G2
            have p1 := G2.s1
            have p2 := G2.sm
            have H2 := Lib.hid h2
            have GG2 := Lib.hid G2
            have HB2 := Lib.hid bb2
            clear h2 G2 bb2 f2 hs' hc'
            have hso : s ≤ s' := by omega
            clear S2
            by_cases ho : o < s'
            · go_wp2_with fail
              refine (room_yes g _ _ _ _ _ _ H2.out (by omega)).mono ?_
              rintro e _ ⟨rfl, rfl⟩
              go_wp2_with fail
              refine (size_any g _ _ _ _ _ H2.out).mono ?_
              rintro e _ ⟨rfl, rfl⟩
              go_wp2_with fail
              refine (room_yes g _ _ _ _ _ _ H2.out (by omega)).mono ?_
              rintro e _ ⟨rfl, rfl⟩
              go_wp2_with fail
              refine (room_no g _ _ _ _ _ _ H2.out (by omega)).mono ?_
              rintro e _ ⟨rfl, rfl⟩
              go_wp2_with fail
              go_roundw
              case rel => exact ⟨k + 1, _, _, _, by omega, by omega, by go_num, GG2.out, H2.out, HB2.out⟩
              case measure => simp [intOf]; omega
            · replace ho : s' ≤ o := by omega
              go_wp2_with fail
              refine (room_no g _ _ _ _ _ _ H2.out (by omega)).mono ?_
              rintro e _ ⟨rfl, rfl⟩
              go_wp2_with fail
              refine (size_any g _ _ _ _ _ H2.out).mono ?_
              rintro e _ ⟨rfl, rfl⟩
              go_wp2_with fail
              refine (room_yes g _ _ _ _ _ _ H2.out (by omega)).mono ?_
              rintro e _ ⟨rfl, rfl⟩
              go_wp2_with fail
              refine (room_no g _ _ _ _ _ _ H2.out (by omega)).mono ?_
              rintro e _ ⟨rfl, rfl⟩
              go_wp2_with fail
              go_roundw
              case rel => exact ⟨k + 1, _, _, _, by omega, by omega, by go_num, GG2.out, H2.out, HB2.out⟩
              case measure => simp [intOf]; omega
    · have nin : ¬ (k < len1) ∨ (k < len1 ∧ ¬ k < 30) := by omega
      clear hin
      rcases nin with hlt | ⟨hlt, h40⟩
      all_goals
        go_wp2_with fail
        refine (wakes_any _).mono ?_
        rintro e w2 ⟨rfl, hb2⟩
        have HB2 := Lib.hid (Frm.below HB.out (Frm.of_below (S := fun _ => False) hb2) sz (by rintro i ⟨⟩))
        clear hb2
        go_wp2_with fail
        go_ret
        exact ⟨rfl, HB2.out⟩

/-! ### THE ROW's STEP: WRITTEN OUT: LEAVE IT -/
set_option maxRecDepth 100000 in
theorem lifted (os : Os) (started : os.Started) (H : Type) (enc : TypeId × Value → H) :
    ReturnsInHanded {} Try.checked os 4 .any (Rows.cwndRoomSpec.pre6 enc Try.prog Try.f4 Rows.cwndRoomRow.domain false) (Rows.cwndRoomSpec.post enc Try.prog Try.f4 false true false false) := by
  refine returnsInHanded_of_change (C := Try.checked) own started (by kernel_rfl) Try.func4
    (ChangeSpec.witness6 (enc := enc) (C := Try.checked) false ⟨#[], #[.int .i64 0, .slice none 0 0, .int .i64 0], []⟩ 8 (by kernel_rfl) (by kernel_rfl) (by kernel_rfl) (by kernel_rfl)) ?_
  intro W base args ds gs before hval0 hW hcnd _
  have hval : ∀ (j : Nat) t v, Try.f4.params[j]? = some t → args[j]? = some v → Value.okWide Try.prog W .any base t v := hval0
  have hW' := hW
  obtain ⟨p, q, hA0, hV, rfl, hfz, hnd⟩ := hW
  have hA : DataW.TrodAll enc Try.prog W 0 (fun _ => true) true Try.f4.params.toList args.toList ds p := hA0
  rw [Try.params4] at hA hval
  obtain ⟨v0, vs0, d0, ds0, p0, q0, hargs, rfl, rfl, h0, r0⟩ := trodAll_cons hA
  obtain ⟨v1, vs1, d1, ds1, p1, q1, rfl, rfl, rfl, h1, r1⟩ := trodAll_cons r0
  obtain ⟨v2, vs2, d2, ds2, p2, q2, rfl, rfl, rfl, h2, r2⟩ := trodAll_cons r1
  obtain ⟨rfl, rfl, rfl⟩ := trodAll_nil r2
  obtain rfl : args = #[v0, v1, v2] := by cases args; simp_all
  obtain ⟨rfl, rfl⟩ := trodVars_none hV
  obtain ⟨a0, rfl, rfl, rfl, w0⟩ := open_int Try.underlying3 (hval 0 3 v0 rfl rfl) h0
  obtain ⟨a1, len1, cap1, rfl⟩ := okWide_slice Try.underlying22 (hval 1 22 v1 rfl rfl)
  have k1 := h1
  have lt1 : ∀ x ∈ p1, x.block < W.heap.size := by obtain ⟨m, hm⟩ := k1; exact DataW.trod_lt m _ _ _ hm
  obtain ⟨z1, w1⟩ : ∃ zs, IsRow .i64 W a1 len1 cap1 zs := by
    obtain ⟨fuel, hf⟩ := h1
    rcases open_ints Try.underlying22 Try.underlying3 (by kernel_rfl) hf with ⟨hcs, _⟩ | ⟨x, l, c, zs, hcs, _, hl, hm, hz, _, hcell, hwz⟩
    · simp [Value.cells] at hcs
      obtain ⟨rfl, rfl, rfl⟩ := hcs
      exact ⟨[], .inl ⟨rfl, rfl, rfl, rfl⟩⟩
    · simp [Value.cells] at hcs
      obtain ⟨rfl, rfl, rfl⟩ := hcs
      exact ⟨zs, .inr ⟨_, rfl, hl, hm, by simpa using hz, hcell, hwz⟩⟩
  obtain ⟨a2, rfl, rfl, rfl, w2⟩ := open_int Try.underlying3 (hval 2 3 v2 rfl rfl) h2
  clear hA0 hval0
  refine (walk a0 a1 len1 cap1 z1 a2 W w0 w1 w2).mono fun e W' ⟨he, bel⟩ => ?_
  subst he
  exact ⟨_, rfl, _, _, _, [], _, [], hW', trodAll_mk1 (shut_bool Try.underlying4 _), (trodAll_cons_mk (shut_int Try.underlying3 w0) (trodAll_cons_mk (Below.trod laidOut (by kernel_rfl) (of_decide_eq_true (by kernel_rfl)) k1 bel lt1) (trodAll_cons_mk (shut_int Try.underlying3 w2) trodAll_mk0))), rfl, bel.frame _, fun h => by cases h⟩

theorem over : Rows.cwndRoomRow.holds Try.pinned (OpenSpec.ofChange Rows.cwndRoomSpec) :=
  OpenClaim.holds_of_wide 4 Try.f4 rfl rfl rfl rfl rfl rfl rfl ⟨rfl, rfl, rfl, rfl, rfl⟩ rfl rfl rfl rfl rfl (by kernel_rfl) Try.func4 (by kernel_rfl)
    (of_decide_eq_true (by kernel_rfl)) (by unfold Func.isWrapper; first | (rw [if_pos (by decide +kernel)]; kernel_rfl) | (rw [if_neg (by decide +kernel)]; exact ⟨rfl, rfl⟩))
    (fun os started H enc _ => lifted os started H enc)

/-- ████ THE STATEMENT ████ -/
theorem proved : Rows.CwndRoomSaid := over
#print axioms proved
end Go.Proofs.Ytkakldfdejklpaa.cwndRoom
