/- Proved: SumSpoils returns true for every input, and leaves its arguments as they were; no further condition.
   The frame around the walk was written by the guide's proof-skeleton program. -/
import Derived.Test.YtgcolhcajmbehaaRows
import Derived.Test.YtgcolhcajmbehaaFns
import Derived.Test.YtgcolhcajmbehaaAid2
import Derived.Test.YtgcolhcajmbehaaSp
import Derived.WalkKit
import Derived.ProofKit
import Derived.OpenShut
import Derived.ShutString
import Derived.ChangeOld
import Derived.Below
namespace Go.Proofs.Ytgcolhcajmbehaa.sumSpoils
open Go.ChangeShapes Go.WideShapes Go.ChangeAt Go.RowKit
open Go.ChangeMaps (open_string shut_string)
set_option linter.unusedVariables false

theorem own : ownKnob Try.prog.godebug = none := by kernel_rfl
theorem laidOut : laidOutB Try.prog = true := by kernel_rfl

/-- WHAT THE WALK IS TOLD OF A SLICE OF INTEGERS THAT CAME IN: it is nil; or it leads to a row of 'cap' cells, the numbers 'zs' (the first 'len' are its elements, the rest its spare room), each fitting its kind. -/
def IsRow (k : IntKind) (w : World) (a : Option Addr) (len cap : Nat) (zs : List Int) : Prop :=
  (a = none ∧ len = 0 ∧ cap = 0 ∧ zs = []) ∨
  ∃ x, a = some x ∧ len ≤ cap ∧ cap ≤ maxLen ∧ zs.length = cap ∧ (∀ i, i < zs.length → w.cell? (x.add i) = some (.int k (zs.getD i 0))) ∧ ∀ n ∈ zs, (Lit.int k n).wf = true

/-! ### STEP 1: THE WALK: the Go text returns true, AND WRITES NOTHING THAT WAS THERE: 'Below w.heap.size w w'' (Derived/Below.lean: '.refl', '.alloc', '.drew', '.setCell' at a new block, '.trans'). Open each 'IsRow' by 'rcases' AHEAD of 'go_enter'; part every test ahead of the walk. -/
set_option maxHeartbeats 16000000 in
set_option maxRecDepth 100000 in
theorem walk (a0 : Option Addr) (len0 cap0 : Nat) (z0 : List Int) (a1 : Int) (a2 : Int) (w : World) (w0 : IsRow .u8 w a0 len0 cap0 z0) (w1 : (Lit.int .i64 a1).wf = true) (w2 : (Lit.int .u32 a2).wf = true) :
    Calls Try.prog 5 #[.slice a0 len0 cap0, .int .i64 a1, .int .u32 a2] w fun e w' => e = .returned (.bool true) ∧ Below w.heap.size w w' := by
  obtain ⟨bs, hbs, hb256⟩ := bytes_of_row w0
  have HBS := Lib.hid hbs
  have HLT := Lib.hid hb256
  obtain ⟨mask, rfl, hmask⟩ : ∃ mask : Nat, a2 = (mask : Int) ∧ mask < 4294967296 := by
    simp only [Lit.wf, Bool.and_eq_true, decide_eq_true_eq] at w2
    have h1 : IntKind.u32.min = 0 := rfl
    have h2 : IntKind.u32.max = 4294967295 := rfl
    exact ⟨a2.toNat, by omega, by omega⟩
  clear hbs hb256 w0 w1 w2
  go_enter Try.func5, Try.ntmps5
  go_wp2_with fail
  refine (cut_any _ _ _ _ 40 HBS.out (by omega)).mono ?_
  rintro e w1 ⟨v1, rfl, ho, hb⟩
  obtain ⟨n, hn⟩ : ∃ n, n = min len0 40 := ⟨_, rfl⟩
  have n40 : n ≤ 40 := by omega
  rw [← hn, u8s_take] at ho
  have HL := Lib.hid (take_lt 40 HLT.out)
  generalize bs.take 40 = l at ho HL
  have hll : l.length = n := by have := own_len ho; simpa [u8s] using this
  have HLL := Lib.hid hll
  obtain ⟨A, c, rfl⟩ := own_slice' ho
  have HV := Lib.hid (Sl.of_own ho (u8s_one _))
  have HB := Lib.hid hb
  have sz := hb.size
  clear ho hb hn HBS HLT hll
  go_wp2_with fail
  refine (within_any a1 (8 * n + 40) _ (by omega) (by omega)).mono ?_
  rintro e _ ⟨rfl, rfl⟩
  obtain ⟨p, hp⟩ : ∃ p : Int, p = a1 % (8 * n + 40) := ⟨_, rfl⟩
  have p0 : 0 ≤ p := hp ▸ Int.emod_nonneg _ (by omega)
  have p1 : p < 8 * n + 40 := hp ▸ Int.emod_lt_of_pos _ (by omega)
  rw [← hp]
  clear hp
  go_wp2_with fail
  refine (spoil_any _ _ n l (p - 36) mask HV.out HL.out (by omega) (by omega) (by omega) hmask).mono ?_
  rintro e w2 ⟨v2, rfl, ho, hb⟩
  obtain ⟨A2, c2, rfl⟩ := own_slice' ho
  have HS := Lib.hid (Sl.of_own ho (u8s_one _))
  have HV2 := Lib.hid (HV.out.below hb)
  have HB2 := Lib.hid (HB.out.trans (hb.mono sz))
  have sz2 : w.heap.size ≤ w2.heap.size := Nat.le_trans sz hb.size
  obtain ⟨sl, hsl⟩ : ∃ sl, sl = spN (p - 36) mask l 32 := ⟨_, rfl⟩
  rw [← hsl] at HS
  have HSL := Lib.hid hsl
  have hs256 : ∀ x ∈ sl, x < 256 := hsl ▸ spN_lt HL.out 32
  have hsll : sl.length = n := by rw [hsl, spN_length]; exact HLL.out
  have HS256 := Lib.hid hs256
  have HSLL := Lib.hid hsll
  clear ho hb HB HV hsl hs256 hsll sz
  go_wp2_with fail
  go_loopw [8] (fun i wr => ∃ k m : Nat, k ≤ 8 * n ∧ i = .int .i64 k ∧ wr = w2.drewN m) (fun i _ => 8 * n - (intOf i).toNat)
  case atStart => exact ⟨0, 0, by omega, rfl, rfl⟩
  case round =>
    obtain ⟨k, m, hk, rfl, rfl⟩ := hrel
    by_cases hlt : k < 8 * n
    · obtain ⟨q, hq⟩ : ∃ q, q = k / 8 := ⟨_, rfl⟩
      obtain ⟨r, hr⟩ : ∃ r, r = k % 8 := ⟨_, rfl⟩
      have hqn : q < n := by omega
      have hr8 : r < 8 := by omega
      have eq1 : (k : Int) / 8 = (q : Int) := by omega
      have er1 : (k : Int) % 8 = (r : Int) := by omega
      have hbit := bitAt_spN (p - 36) mask l k (by rw [HLL.out]; exact hlt) 32 (Nat.le_refl _)
      rw [← HSL.out] at hbit
      unfold bitAt at hbit
      rw [← hq, ← hr] at hbit
      obtain ⟨x, rfl, cx⟩ := HV2.out.at_ hqn
      obtain ⟨y, rfl, cy⟩ := HS.out.at_ hqn
      rw [u8s_getD _ _ (by rw [HLL.out]; exact hqn)] at cx
      rw [u8s_getD _ _ (by rw [HSLL.out]; exact hqn)] at cy
      have hx256 := getD_lt HL.out q
      have hy256 := getD_lt HS256.out q
      generalize l.getD q 0 = xv at *
      generalize sl.getD q 0 = yv at *
      obtain ⟨z, hz⟩ : ∃ z, z = xv ^^^ yv := ⟨_, rfl⟩
      have hz256 : z < 256 := hz ▸ Nat.xor_lt_two_pow (n := 8) hx256 hy256
      have exy : bits BinOp.xor IntKind.u8 (xv : Int) (yv : Int) = (z : Int) := by rw [hz]; exact bits_xor_u8 xv yv hx256 hy256
      have hzb : z.testBit r = decide (0 ≤ (k : Int) - (p - 36) ∧ (k : Int) - (p - 36) < ((32 : Nat) : Int) ∧ mask.testBit ((k : Int) - (p - 36)).toNat = true) := by
        rw [hz, Nat.testBit_xor, hbit, ← Bool.xor_assoc, Bool.xor_self, Bool.false_xor]
      have hT1 := shift_bit8 z r hz256
      have q1 : (q : Int) < (n : Int) := by omega
      have q0 : (0 : Int) ≤ (q : Int) := by omega
      have r0 : (0 : Int) ≤ (r : Int) := by omega
      have ert : (r : Int).toNat = r := by omega
      clear hbit hz hq hr hx256 hy256 hz256
      by_cases i0 : 0 ≤ (k : Int) - (p - 36)
      · by_cases i32 : (k : Int) - (p - 36) < 32
        · obtain ⟨t, ht⟩ : ∃ t : Nat, (k : Int) - (p - 36) = (t : Int) := ⟨((k : Int) - (p - 36)).toNat, by omega⟩
          have t32 : t < 32 := by omega
          have t31 : ¬ (31 : Int) < (t : Int) := by omega
          have t0 : ¬ (t : Int) < 0 := by omega
          have ettt : (t : Int).toNat = t := by omega
          rw [ht, Int.toNat_natCast] at hzb
          have hT2 := shift_bit1 mask t hmask
          have hzb2 : z.testBit r = mask.testBit t := by
            rw [hzb]
            by_cases hm : mask.testBit t = true
            · rw [hm]; exact decide_eq_true ⟨by omega, by omega, rfl⟩
            · rw [Bool.not_eq_true] at hm
              rw [hm]
              exact decide_eq_false (fun h => by cases h.2.2)
          rw [hzb2] at hT1
          clear hzb hzb2 i0 i32
          rcases hm : mask.testBit t with _ | _
          all_goals
            rw [hm] at hT1 hT2
            clear hm
            go_wp2_with fail
            go_quiet (fail)
            go_wp2_with fail
            go_roundw
            case rel => exact ⟨k + 1, _, by omega, by go_num, rfl⟩
            case measure => simp [intOf]; omega
        · have hzb2 : z.testBit r = false := by
            rw [hzb]
            exact decide_eq_false (fun h => by omega)
          rw [hzb2] at hT1
          clear hzb hzb2
          go_wp2_with fail
          go_quiet (fail)
          go_wp2_with fail
          go_roundw
          case rel => exact ⟨k + 1, _, by omega, by go_num, rfl⟩
          case measure => simp [intOf]; omega
      · have hzb2 : z.testBit r = false := by
          rw [hzb]
          exact decide_eq_false (fun h => by omega)
        rw [hzb2] at hT1
        clear hzb hzb2
        go_wp2_with fail
        go_quiet (fail)
        go_wp2_with fail
        go_roundw
        case rel => exact ⟨k + 1, _, by omega, by go_num, rfl⟩
        case measure => simp [intOf]; omega
    · obtain rfl : k = 8 * n := by omega
      go_wp2_with fail
      refine (spoil_any _ _ n sl (p - 36) mask (HS.out.drewN _) HS256.out (by omega) (by omega) (by omega) hmask).mono ?_
      rintro e w3 ⟨v3, rfl, ho, hb⟩
      rw [HSL.out, sp_twice _ _ _ HL.out] at ho
      obtain ⟨A3, c3, rfl⟩ := own_slice' ho
      have HS3 := Lib.hid (Sl.of_own ho (u8s_one _))
      have HV3 := Lib.hid ((HV2.out.drewN m).below hb)
      have HB3 := Lib.hid ((Below.drewN' HB2.out m).trans (hb.mono sz2))
      have sz3 : w.heap.size ≤ w3.heap.size := Nat.le_trans sz2 hb.size
      clear ho hb HB2 HS
      go_wp2_with fail
      refine (same_any _ _ _ n l HS3.out HV3.out).mono ?_
      rintro e w4 ⟨rfl, m4, rfl⟩
      go_wp2_with fail
      refine (spoil_zero _ _ n l (p - 36) (HV3.out.drewN _) HL.out (by omega) (by omega) (by omega)).mono ?_
      rintro e w5 ⟨v5, rfl, ho, hb⟩
      obtain ⟨A5, c5, rfl⟩ := own_slice' ho
      have HS5 := Lib.hid (Sl.of_own ho (u8s_one _))
      have HV5 := Lib.hid ((HV3.out.drewN m4).below hb)
      have HB5 := Lib.hid ((Below.drewN' HB3.out m4).trans (hb.mono sz3))
      have sz5 : w.heap.size ≤ w5.heap.size := Nat.le_trans sz3 hb.size
      clear ho hb HB3 HS3 HV3
      go_wp2_with fail
      refine (same_any _ _ _ n l HS5.out HV5.out).mono ?_
      rintro e w6 ⟨rfl, m6, rfl⟩
      go_wp2_with fail
      refine (wakes_any _).mono ?_
      rintro e w7 ⟨rfl, hb⟩
      have HB7 := Lib.hid ((Below.drewN' HB5.out m6).trans (hb.mono sz5))
      clear hb
      go_wp2_with fail
      go_ret
      exact ⟨rfl, HB7.out⟩

/-! ### THE ROW's STEP: WRITTEN OUT: LEAVE IT -/
set_option maxRecDepth 100000 in
theorem lifted (os : Os) (started : os.Started) (H : Type) (enc : TypeId × Value → H) :
    ReturnsInHanded {} Try.checked os 5 .any (Rows.sumSpoilsSpec.pre6 enc Try.prog Try.f5 Rows.sumSpoilsRow.domain false) (Rows.sumSpoilsSpec.post enc Try.prog Try.f5 false true false false) := by
  refine returnsInHanded_of_change (C := Try.checked) own started (by kernel_rfl) Try.func5
    (ChangeSpec.witness6 (enc := enc) (C := Try.checked) false ⟨#[], #[.slice none 0 0, .int .i64 0, .int .u32 0], []⟩ 8 (by kernel_rfl) (by kernel_rfl) (by kernel_rfl) (by kernel_rfl)) ?_
  intro W base args ds gs before hval0 hW hcnd _
  have hval : ∀ (j : Nat) t v, Try.f5.params[j]? = some t → args[j]? = some v → Value.okWide Try.prog W .any base t v := hval0
  have hW' := hW
  obtain ⟨p, q, hA0, hV, rfl, hfz, hnd⟩ := hW
  have hA : DataW.TrodAll enc Try.prog W 0 (fun _ => true) true Try.f5.params.toList args.toList ds p := hA0
  rw [Try.params5] at hA hval
  obtain ⟨v0, vs0, d0, ds0, p0, q0, hargs, rfl, rfl, h0, r0⟩ := trodAll_cons hA
  obtain ⟨v1, vs1, d1, ds1, p1, q1, rfl, rfl, rfl, h1, r1⟩ := trodAll_cons r0
  obtain ⟨v2, vs2, d2, ds2, p2, q2, rfl, rfl, rfl, h2, r2⟩ := trodAll_cons r1
  obtain ⟨rfl, rfl, rfl⟩ := trodAll_nil r2
  obtain rfl : args = #[v0, v1, v2] := by cases args; simp_all
  obtain ⟨rfl, rfl⟩ := trodVars_none hV
  obtain ⟨a0, len0, cap0, rfl⟩ := okWide_slice Try.underlying22 (hval 0 22 v0 rfl rfl)
  have k0 := h0
  have lt0 : ∀ x ∈ p0, x.block < W.heap.size := by obtain ⟨m, hm⟩ := k0; exact DataW.trod_lt m _ _ _ hm
  obtain ⟨z0, w0⟩ : ∃ zs, IsRow .u8 W a0 len0 cap0 zs := by
    obtain ⟨fuel, hf⟩ := h0
    rcases open_ints Try.underlying22 Try.underlying5 (by kernel_rfl) hf with ⟨hcs, _⟩ | ⟨x, l, c, zs, hcs, _, hl, hm, hz, _, hcell, hwz⟩
    · simp [Value.cells] at hcs
      obtain ⟨rfl, rfl, rfl⟩ := hcs
      exact ⟨[], .inl ⟨rfl, rfl, rfl, rfl⟩⟩
    · simp [Value.cells] at hcs
      obtain ⟨rfl, rfl, rfl⟩ := hcs
      exact ⟨zs, .inr ⟨_, rfl, hl, hm, by simpa using hz, hcell, hwz⟩⟩
  obtain ⟨a1, rfl, rfl, rfl, w1⟩ := open_int Try.underlying3 (hval 1 3 v1 rfl rfl) h1
  obtain ⟨a2, rfl, rfl, rfl, w2⟩ := open_int Try.underlying26 (hval 2 26 v2 rfl rfl) h2
  clear hA0 hval0
  refine (walk a0 len0 cap0 z0 a1 a2 W w0 w1 w2).mono fun e W' ⟨he, bel⟩ => ?_
  subst he
  exact ⟨_, rfl, _, _, _, [], _, [], hW', trodAll_mk1 (shut_bool Try.underlying4 _), (trodAll_cons_mk (Below.trod laidOut (by kernel_rfl) (of_decide_eq_true (by kernel_rfl)) k0 bel lt0) (trodAll_cons_mk (shut_int Try.underlying3 w1) (trodAll_cons_mk (shut_int Try.underlying26 w2) trodAll_mk0))), rfl, bel.frame _, fun h => by cases h⟩

theorem over : Rows.sumSpoilsRow.holds Try.pinned (OpenSpec.ofChange Rows.sumSpoilsSpec) :=
  OpenClaim.holds_of_wide 5 Try.f5 rfl rfl rfl rfl rfl rfl rfl ⟨rfl, rfl, rfl, rfl, rfl⟩ rfl rfl rfl rfl rfl (by kernel_rfl) Try.func5 (by kernel_rfl)
    (of_decide_eq_true (by kernel_rfl)) (by unfold Func.isWrapper; first | (rw [if_pos (by decide +kernel)]; kernel_rfl) | (rw [if_neg (by decide +kernel)]; exact ⟨rfl, rfl⟩))
    (fun os started H enc _ => lifted os started H enc)

/-- ████ THE STATEMENT ████ -/
theorem proved : Rows.SumSpoilsSaid := over
#print axioms proved
end Go.Proofs.Ytgcolhcajmbehaa.sumSpoils
