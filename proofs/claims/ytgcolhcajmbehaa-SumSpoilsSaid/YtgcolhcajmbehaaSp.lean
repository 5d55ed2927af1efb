/- The contracts of bytes.Clone, Spoil and Same. -/
import Derived.Test.YtgcolhcajmbehaaAid
import Derived.Test.YtgcolhcajmbehaaSpm
import Derived.Lib.SliceRun
namespace Go.Proofs.Ytgcolhcajmbehaa
open Go.RowKit

theorem own_slice' {w : World} {base n : Nat} {e : TypeId} {size : Nat} {v : Value} {xs : List Value} (h : w.ownsRow base e size v n xs) : ∃ A c, v = .slice A n c := by
  rcases h.2 with ⟨rfl, rfl⟩ | ⟨g, cap, cur, rfl, _⟩
  · exact ⟨none, 0, rfl⟩
  · exact ⟨_, cap, rfl⟩

theorem clone_any (w : World) (v : Value) (n : Nat) (xs : List Value) (h : Sl w 1 v n xs) (hn : n ≤ 1000000) :
    Calls Try.prog 15 #[v] w fun e w' => ∃ v', e = .returned v' ∧ w'.ownsRow w.heap.size 5 1 v' n xs ∧ Below w.heap.size w w' := by
  obtain ⟨A, c, rfl, h1, h2⟩ := h.len
  have qT : ∀ (w : World) (a : Option Addr) (n c n' c' : Nat), (binOp .eql 22 (.slice a n c) (.slice none n' c')).run Try.prog w = .ok (.bool a.isNone) w := fun w a n c n' c' => Lib.run_eql_slice_nil w _ _ a n c n' c' Try.underlying22
  have HI := Lib.hid Try.info5
  rcases A with _ | ad
  · have h0 : n = 0 ∧ xs = [] := by
      obtain ⟨A, c', e, _, _, hl, _, hr⟩ := h
      have : ¬ 0 < xs.length := fun h0 => by
        obtain ⟨ad, e2, _⟩ := hr h0
        injection e with e
        rw [← e] at e2
        cases e2
      exact ⟨by omega, List.eq_nil_of_length_eq_zero (by omega)⟩
    obtain ⟨rfl, rfl⟩ := h0
    clear h
    go_enter Try.func15, Try.ntmps15
    go_wp2_with fail
    go_ret
    exact ⟨_, rfl, World.ownsRow_nil _ _ _ _, Below.refl _ _⟩
  · have H := Lib.hid h
    clear h
    go_enter Try.func15, Try.ntmps15
    go_wp2_with (at_builtin; refine wp_app w.heap.size rfl _ _ 22 5 (.int .u8 0) 1 1 rfl Try.underlying22 HI.out rfl (by omega) (by omega) rfl rfl (World.ownsRow_made w #[] 0 (Nat.le_refl _) (by simp [maxLen]) rfl) (H.out.alloc _) (by omega) (by simp) ?_; intro v1 w1 hown hfr hat)
    simp only [Nat.zero_add, List.nil_append] at hown
    have HO := Lib.hid hown
    have HB : Hid (Below w.heap.size w w1) := Frm.below ((Below.refl _ _).alloc (Nat.le_refl _) _) hfr (by simp) (fun g hg => by injection hg with hg; simp only at hg; omega)
    clear hown hfr hat
    go_wp2_with fail
    go_ret
    exact ⟨_, rfl, HO.out, HB.out⟩

/-- Same of two slices that read alike. -/
theorem same_any (w : World) (v u : Value) (n : Nat) (l : List Nat) (h : Sl w 1 v n (u8s l)) (k : Sl w 1 u n (u8s l)) :
    Calls Try.prog 13 #[v, u] w fun e w' => e = .returned (.bool true) ∧ ∃ m, w' = w.drewN m := by
  obtain ⟨A, c, rfl, h1, h2⟩ := h.len
  obtain ⟨B, d, rfl, k1, k2⟩ := k.len
  have hm : n ≤ 9223372036854775807 := by unfold maxLen at h2; omega
  have hl : l.length = n := by
    obtain ⟨_, _, _, _, _, h, _⟩ := h
    simpa [u8s] using h
  have HL := Lib.hid hl
  have H := Lib.hid h
  have K := Lib.hid k
  clear h k hl
  go_enter Try.func13, Try.ntmps13
  go_wp2_with fail
  go_loopw [5] (fun i wr => ∃ j m : Nat, j ≤ n ∧ i = .int .i64 j ∧ wr = w.drewN m) (fun i _ => n - (intOf i).toNat)
  case atStart => exact ⟨0, 0, by omega, rfl, rfl⟩
  case round =>
    obtain ⟨j, m, hj, rfl, rfl⟩ := hrel
    by_cases hlt : j < n
    · obtain ⟨x, rfl, cx⟩ := H.out.at_ hlt
      obtain ⟨y, rfl, cy⟩ := K.out.at_ hlt
      rw [u8s_getD _ _ (by rw [HL.out]; exact hlt)] at cx cy
      generalize l.getD j 0 = z at cx cy
      have j1 : (j : Int) < (n : Int) := by omega
      have j0 : (0 : Int) ≤ (j : Int) := by omega
      go_wp2_with fail
      go_quiet (fail)
      go_wp2_with fail
      go_roundw
      case rel => exact ⟨j + 1, _, by omega, by go_num, rfl⟩
      case measure => simp [intOf]; omega
    · go_wp2_with fail
      go_ret
      exact ⟨rfl, _, rfl⟩

theorem and_one (m k : Nat) (hm : m < 4294967296) : bits BinOp.and IntKind.u32 ((m : Int) / 2 ^ k) 1 = (((m / 2 ^ k) % 2 : Nat) : Int) := by
  have e : ((m : Int) / 2 ^ k) = ((m / 2 ^ k : Nat) : Int) := by rw [Int.natCast_ediv, Int.natCast_pow]; rfl
  rw [e]
  have h := (bits_nat .u32 32 (by decide) (fun n h0 h1 => by rw [IntKind.wrap_u32]; omega) (m / 2 ^ k) 1 (Nat.lt_of_le_of_lt (Nat.div_le_self _ _) hm) (by omega)).1
  rw [Nat.and_one_is_mod] at h
  exact h
theorem shift_bit (m k : Nat) (hm : m < 4294967296) : (bits BinOp.and IntKind.u32 ((m : Int) / 2 ^ k) 1 == 0) = !(m.testBit k) := by
  rw [and_one m k hm, Nat.testBit_eq_decide_div_mod_eq]
  rcases Nat.mod_two_eq_zero_or_one (m / 2 ^ k) with h | h <;> rw [h] <;> rfl

theorem shift_bit1 (m k : Nat) (hm : m < 4294967296) : (bits BinOp.and IntKind.u32 ((m : Int) / 2 ^ k) 1 == 1) = m.testBit k := by
  rw [and_one m k hm, Nat.testBit_eq_decide_div_mod_eq]
  rcases Nat.mod_two_eq_zero_or_one (m / 2 ^ k) with h | h <;> rw [h] <;> rfl
theorem shift_bit8 (m k : Nat) (hm : m < 256) : (bits BinOp.and IntKind.u8 ((m : Int) / 2 ^ k) 1 == 1) = m.testBit k := by
  have e : ((m : Int) / 2 ^ k) = ((m / 2 ^ k : Nat) : Int) := by rw [Int.natCast_ediv, Int.natCast_pow]; rfl
  have h := (bits_nat .u8 8 (by decide) wraps_u8 (m / 2 ^ k) 1 (Nat.lt_of_le_of_lt (Nat.div_le_self _ _) hm) (by omega)).1
  rw [Nat.and_one_is_mod] at h
  rw [e, show bits BinOp.and IntKind.u8 ((m / 2 ^ k : Nat) : Int) 1 = (((m / 2 ^ k) % 2 : Nat) : Int) from h, Nat.testBit_eq_decide_div_mod_eq]
  rcases Nat.mod_two_eq_zero_or_one (m / 2 ^ k) with h | h <;> rw [h] <;> rfl
theorem two_pow_mod (r : Nat) (hr : r < 8) : ((2 : Int) ^ r % 256) = ((2 ^ r : Nat) : Int) := by
  have h : (2 : Nat) ^ r < 2 ^ 8 := Nat.pow_lt_pow_right (by omega) hr
  have e : (2 : Int) ^ r = ((2 ^ r : Nat) : Int) := (Int.natCast_pow 2 r).symm
  rw [e]
  generalize 2 ^ r = y at *
  omega
theorem u8s_get (l : List Nat) (q : Nat) (h : q < l.length) : (u8s l)[q]? = some (.int .u8 (l.getD q 0 : Nat)) := by
  simp [u8s, List.getD_eq_getElem?_getD, List.getElem?_eq_getElem h]
theorem u8s_put (l : List Nat) (k z : Nat) : (u8s l).set k (.int .u8 z) = u8s (l.set k z) := by simp [u8s, List.map_set]

theorem spoil_any (w : World) (v : Value) (n : Nat) (b : List Nat) (bit : Int) (mask : Nat) (h : Sl w 1 v n (u8s b)) (hb256 : ∀ x ∈ b, x < 256) (hn : n ≤ 1000) (h1 : -10000 ≤ bit) (h2 : bit ≤ 10000) (hm : mask < 4294967296) :
    Calls Try.prog 12 #[v, .int .i64 bit, .int .u32 mask] w fun e w' => ∃ v', e = .returned v' ∧ w'.ownsRow w.heap.size 5 1 v' n (u8s (spN bit mask b 32)) ∧ Below w.heap.size w w' := by
  have hbl : b.length = n := by
    obtain ⟨_, _, _, _, _, h, _⟩ := h
    simpa [u8s] using h
  have HBL := Lib.hid hbl
  have HLT := Lib.hid hb256
  have H := Lib.hid h
  clear h hbl hb256
  go_enter Try.func12, Try.ntmps12
  go_wp2_with fail
  refine (clone_any _ _ _ _ H.out (by omega)).mono ?_
  rintro e w1 ⟨v1, rfl, ho, hb⟩
  obtain ⟨A, c, rfl⟩ := own_slice' ho
  have HO := Lib.hid ho
  have HB := Lib.hid hb
  clear ho hb
  go_wp2_with fail
  go_loopw [16] (fun i wr => ∃ k : Nat, k ≤ 32 ∧ i = .int .i64 k ∧ wr.ownsRow w.heap.size 5 1 (.slice A n c) n (u8s (spN bit mask b k)) ∧ Below w.heap.size w wr) (fun i _ => 32 - (intOf i).toNat)
  case atStart => exact ⟨0, by omega, rfl, HO.out, HB.out⟩
  case round =>
    obtain ⟨k, hk, rfl, ho, hb⟩ := hrel
    have HO := Lib.hid ho
    have HB := Lib.hid hb
    clear ho hb
    by_cases hlt : k < 32
    · have hsb := shift_bit mask k hm
      have hlen : (spN bit mask b k).length = n := by rw [spN_length]; exact HBL.out
      by_cases hc : spC b.length bit mask k
      · have hst : spN bit mask b (k + 1) = flip (spN bit mask b k) (bit + k).toNat := by rw [spN, if_pos hc]
        have hl256 := spN_lt (bit := bit) (mask := mask) HLT.out k
        generalize spN bit mask b k = l at *
        obtain ⟨⟨c1, c2, c3⟩, c4⟩ := hc
        rw [HBL.out] at c1 c3
        rw [c4, Bool.not_true] at hsb
        clear c4
        obtain ⟨g, c', e, hg0, _⟩ := HO.out.form (by omega)
        injection e with e1 e2 e3
        subst e1
        subst e3
        obtain ⟨p, hp⟩ : ∃ p, p = (bit + k).toNat := ⟨_, rfl⟩
        have hp2 : bit + k = (p : Int) := by omega
        obtain ⟨q, hq⟩ : ∃ q, q = p / 8 := ⟨_, rfl⟩
        obtain ⟨r, hr⟩ : ∃ r, r = p % 8 := ⟨_, rfl⟩
        have hqn : q < n := by omega
        have hr8 : r < 8 := by omega
        have eq1 : (bit + k) / 8 = (q : Int) := by omega
        have er1 : (bit + k) % 8 = (r : Int) := by omega
        rw [← hp] at hst
        unfold flip at hst
        rw [← hq, ← hr] at hst
        obtain ⟨x, hx⟩ : ∃ x, x = l.getD q 0 := ⟨_, rfl⟩
        have hx256 : x < 256 := by
          rw [hx, List.getD_eq_getElem?_getD, List.getElem?_eq_getElem (by rw [hlen]; exact hqn)]
          exact hl256 _ (List.getElem_mem _)
        rw [← hx] at hst
        obtain ⟨z, hz⟩ : ∃ z, z = x ^^^ 2 ^ r := ⟨_, rfl⟩
        rw [← hz] at hst
        have hp8 : 2 ^ r < 2 ^ 8 := Nat.pow_lt_pow_right (by omega) hr8
        have exz : bits BinOp.xor IntKind.u8 (x : Int) (2 ^ r % 256) = (z : Int) := by
          rw [hz, two_pow_mod r hr8]
          exact bits_xor_u8 x _ hx256 hp8
        have kx : wr.cell? ⟨g, q, none⟩ = some (.int .u8 x) := by
          rw [HO.out.cellAt q (by omega), hx, u8s_get l q (by rw [hlen]; exact hqn)]
        have fx := HO.out.frozenAt q
        have HST := Lib.hid hst
        have q1 : (q : Int) < (n : Int) := by omega
        have q0 : (0 : Int) ≤ (q : Int) := by omega
        have r0 : (0 : Int) ≤ (r : Int) := by omega
        have ert : (r : Int).toNat = r := by omega
        clear hst hz hx hp hp2 hq hr hp8 hl256 hlen
        go_wp2_with fail
        go_region
        have HO5 : Hid ((wr.setCell ⟨g, q, none⟩ (.int .u8 z)).drew.ownsRow w.heap.size 5 1 (.slice (some ⟨g, 0, none⟩) n c) n (u8s (spN bit mask b (k + 1)))) := by
          have h1 := (HO.out.stored q (.int .u8 z)).1
          rw [u8s_put, ← HST.out] at h1
          exact h1
        have HB5 : Hid (Below w.heap.size w (wr.setCell ⟨g, q, none⟩ (.int .u8 z)).drew) := (HB.out.setCell hg0 _).drew
        go_wp2_with fail
        go_roundw
        case rel => exact ⟨k + 1, by omega, by go_num, HO5.out, HB5.out⟩
        case measure => simp [intOf]; omega
      · have hst : spN bit mask b (k + 1) = spN bit mask b k := by rw [spN, if_neg hc]
        have HO5 : Hid (wr.ownsRow w.heap.size 5 1 (.slice A n c) n (u8s (spN bit mask b (k + 1)))) := by rw [hst]; exact HO.out
        unfold spC at hc
        rw [HBL.out] at hc
        by_cases c1 : bit < 8 * (n : Int)
        · by_cases c2 : 0 ≤ bit + k
          · by_cases c3 : bit + k < 8 * (n : Int)
            · have c4 : mask.testBit k = false := by simpa [c1, c2, c3] using hc
              rw [c4, Bool.not_false] at hsb
              clear hc hst hlen c4
              go_wp2_with fail
              go_roundw
              case rel => exact ⟨k + 1, by omega, by go_num, HO5.out, HB.out⟩
              case measure => simp [intOf]; omega
            · clear hc hst hlen hsb
              go_wp2_with fail
              go_roundw
              case rel => exact ⟨k + 1, by omega, by go_num, HO5.out, HB.out⟩
              case measure => simp [intOf]; omega
          · clear hc hst hlen hsb
            go_wp2_with fail
            go_roundw
            case rel => exact ⟨k + 1, by omega, by go_num, HO5.out, HB.out⟩
            case measure => simp [intOf]; omega
        · clear hc hst hlen hsb
          go_wp2_with fail
          go_roundw
          case rel => exact ⟨k + 1, by omega, by go_num, HO5.out, HB.out⟩
          case measure => simp [intOf]; omega
    · obtain rfl : k = 32 := by omega
      go_wp2_with fail
      go_ret
      exact ⟨_, rfl, HO.out, HB.out⟩
theorem spoil_zero (w : World) (v : Value) (n : Nat) (b : List Nat) (bit : Int) (h : Sl w 1 v n (u8s b)) (hb256 : ∀ x ∈ b, x < 256) (hn : n ≤ 1000) (h1 : -10000 ≤ bit) (h2 : bit ≤ 10000) :
    Calls Try.prog 12 #[v, .int .i64 bit, .int .u32 0] w fun e w' => ∃ v', e = .returned v' ∧ w'.ownsRow w.heap.size 5 1 v' n (u8s b) ∧ Below w.heap.size w w' := by
  have := spoil_any w v n b bit 0 h hb256 hn h1 h2 (by omega)
  rw [sp_none] at this
  exact this
theorem Below.drewN' {B : Nat} {a w : World} (h : Below B a w) (n : Nat) : Below B a (w.drewN n) := ⟨h.os, h.tape, h.output, h.size, h.block⟩
end Go.Proofs.Ytgcolhcajmbehaa
