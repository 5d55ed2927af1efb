/- The contracts of the functions that chapter 2's statements reach. -/
import Derived.Test.YtgcolhcajmbehaaProg
import Derived.Test.YtgcolhcajmbehaaHS
import Derived.Test.YtgcolhcajmbehaaMath
import Derived.Lib.SlBytesConst
namespace Go.Proofs.Ytgcolhcajmbehaa
open Go.RowKit
attribute [local go_sem] run_max2 run_min2 run_max_ run_min_

theorem Try.info5 : (Try.prog.info? 5).map (fun i => (i.zero, i.size, i.bytes)) = some (some (.int .u8 0), 1, 1) := by kernel_rfl
theorem Try.info26 : (Try.prog.info? 26).map (fun i => (i.zero, i.size, i.bytes)) = some (some (.int .u32 0), 1, 4) := by kernel_rfl

theorem ret_int {k : IntKind} {a b : Int} (h : a = b) : Ending.returned (.int k a) = .returned (.int k b) := by rw [h]

def u32s (l : List Nat) : List Value := l.map fun n : Nat => .int .u32 (n : Int)
def u8s (l : List Nat) : List Value := l.map fun n : Nat => .int .u8 (n : Int)
theorem u32s_one (l : List Nat) : ∀ u ∈ u32s l, u.oneCell' = true := by simp [u32s, Value.oneCell']
theorem u8s_one (l : List Nat) : ∀ u ∈ u8s l, u.oneCell' = true := by simp [u8s, Value.oneCell']
theorem u32s_getD (l : List Nat) (i : Nat) (h : i < l.length) : (u32s l).getD i undef = .int .u32 (l.getD i 0) := by
  simp [u32s, List.getD_eq_getElem?_getD, h]
theorem u8s_getD (l : List Nat) (i : Nat) (h : i < l.length) : (u8s l).getD i undef = .int .u8 (l.getD i 0) := by
  simp [u8s, List.getD_eq_getElem?_getD, h]

theorem entry_any (x : Nat) (w : World) (hx : x < 4294967296) : Calls Try.prog 14 #[.int .u32 x] w fun e w' => e = .returned (.int .u32 (entN x : Nat)) ∧ w = w' := by
  go_enter Try.func14, Try.ntmps14
  go_wp2_with fail
  go_loop [0, 4] (fun n i => ∃ (k : Nat), k ≤ 8 ∧ i = .int .i64 k ∧ n = .int .u32 (itN k x : Nat)) (fun _ i => 8 - (intOf i).toNat)
  case atStart => exact ⟨0, by omega, rfl, rfl⟩
  case round =>
    obtain ⟨k, hk, rfl, rfl⟩ := hrel
    obtain ⟨y, hy⟩ : ∃ y, y = itN k x := ⟨_, rfl⟩
    have hy2 : y < 4294967296 := hy ▸ itN_lt hx k
    rw [← hy]
    have HY := Lib.hid hy
    clear hy
    by_cases h8 : k < 8
    · have hg : itN (k + 1) x = gN y := by rw [HY.out]; rfl
      unfold gN at hg
      by_cases ho : ((y : Int) % 2 == 1) = true
      · have h1 : y % 2 = 1 := by simp at ho; omega
        rw [if_pos h1] at hg
        have hb : bits BinOp.xor IntKind.u32 ((y : Int) / 2) 3988292384 = ((itN (k + 1) x : Nat) : Int) := by
          rw [hg]
          exact bits_xor_u32 (y / 2) 3988292384 (by omega) (by omega)
        have HB := Lib.hid hb
        clear hb hg h1
        go_wp2_with fail
        go_round
        case rel => exact ⟨k + 1, by omega, by go_num, by rw [HB.out]⟩
        case measure => simp [intOf]; omega
      · have h1 : ¬ y % 2 = 1 := by simp at ho; omega
        replace ho : ((y : Int) % 2 == 1) = false := by simpa using ho
        rw [if_neg h1] at hg
        have HB := Lib.hid hg
        clear hg h1
        go_wp2_with fail
        go_round
        case rel => exact ⟨k + 1, by omega, by go_num, by rw [HB.out]; go_num⟩
        case measure => simp [intOf]; omega
    · obtain rfl : k = 8 := by omega
      go_wp2_with fail
      go_ret
      exact ⟨ret_int (by rw [HY.out, entN_eq]), rfl⟩
theorem within_any (v n : Int) (w : World) (hn : 0 < n) (hn2 : n ≤ 1000000) : Calls Try.prog 9 #[.int .i64 v, .int .i64 n] w fun e w' => e = .returned (.int .i64 (v % n)) ∧ w = w' := by
  have h1 : ¬ n < 1 := by omega
  have h2 : ¬ n = 0 := by omega
  have hz : (n == 0) = false := by simpa using h2
  by_cases h : v.tmod n < 0
  · have e : v.tmod n + n = v % n := by
      rw [Int.tmod_eq_emod]
      have := Int.emod_nonneg v h2
      rw [Int.tmod_eq_emod] at h
      split at h <;> split <;> omega
    have l : -n < v.tmod n := by
      have := Int.emod_nonneg v h2
      have := Int.emod_lt_of_pos v hn
      rw [Int.tmod_eq_emod]
      split <;> omega
    have E := Lib.hid e
    clear e
    go_enter Try.func9, Try.ntmps9
    go_wp2
    go_ret
    exact ⟨ret_int E.out, rfl⟩
  · have e : v.tmod n = v % n := by
      have := Int.emod_nonneg v h2
      have := Int.emod_lt_of_pos v hn
      rw [Int.tmod_eq_emod] at h ⊢
      split at h <;> split <;> omega
    have E := Lib.hid e
    clear e
    go_enter Try.func9, Try.ntmps9
    go_wp2
    go_ret
    exact ⟨ret_int E.out, rfl⟩


set_option maxRecDepth 100000 in
theorem table_any (w : World) : Calls Try.prog 7 #[] w fun e w' => ∃ v, e = .returned v ∧ w'.ownsRow w.heap.size 26 1 v 256 (u32s (tabN 256)) ∧ Below w.heap.size w w' := by
  have hi := Try.info26
  have HI := Lib.hid hi
  clear hi
  go_enter Try.func7, Try.ntmps7
  go_wp2_with fail
  go_loopw [1, 3] (fun v n wr => ∃ (k : Nat), k ≤ 256 ∧ n = .int .u32 k ∧ wr.ownsRow w.heap.size 26 1 v k (u32s (tabN k)) ∧ Below w.heap.size w wr) (fun _ n _ => 256 - (intOf n).toNat)
  case atStart => exact ⟨0, by omega, rfl, by rw [tabN_zero]; exact World.ownsRow_nil _ _ _ _, Below.refl _ _⟩
  case round =>
    obtain ⟨k, hk, rfl, ho, hb⟩ := hrel
    have HO := Lib.hid ho
    have HB := Lib.hid hb
    have sz := hb.size
    clear ho hb
    by_cases hlt : k < 256
    · go_wp2_with fail
      refine (entry_any k _ (by omega)).mono ?_
      rintro e _ ⟨rfl, rfl⟩
      go_wp2_with (at_builtin; refine wp_app w.heap.size rfl _ _ 24 26 (.int .u32 0) 1 4 rfl Try.underlying24 HI.out rfl (by omega) (by omega) rfl rfl (HO.out.alloc _) (Sl.one _ _ _ rfl) (by omega) (Nat.le_trans sz (by simp)) ?_; intro v1 w1 hown hfr hat)
      have HO1 : Hid (w1.ownsRow w.heap.size 26 1 v1 (k + 1) (u32s (tabN (k + 1)))) := by
        rw [tabN_snoc, u32s, List.map_append]
        exact hown
      have HB1 : Hid (Below w.heap.size w w1) := Frm.below (HB.out.alloc sz _) hfr (Nat.le_trans sz (by simp)) (fun g hg => (HO.out.lt g hg).1)
      clear hown hfr hat
      go_wp2_with fail
      go_roundw
      case rel => exact ⟨k + 1, by omega, by go_num, HO1.out, HB1.out⟩
      case measure => simp [intOf]; omega
    · obtain rfl : k = 256 := by omega
      go_wp2_with fail
      go_ret
      exact ⟨_, rfl, HO.out, HB.out⟩

theorem of_any (w : World) (vt vb : Value) (n m : Nat) (t b : List Nat) (ht : Sl w 1 vt n (u32s t)) (hb : Sl w 1 vb m (u8s b)) (hn : n = 256) (ht2 : ∀ x ∈ t, x < 4294967296) (hb2 : ∀ x ∈ b, x < 256) :
    Calls Try.prog 8 #[vt, vb] w fun e w' => e = .returned (.int .u32 (ofN t b : Nat)) ∧ w = w' := by
  subst hn
  have HT := Lib.hid ht
  have HB := Lib.hid hb
  have HT2 := Lib.hid ht2
  have HB2 := Lib.hid hb2
  clear ht2 hb2
  have lt : t.length = 256 := by
    obtain ⟨A, c, _, _, _, h, _⟩ := ht
    simpa [u32s] using h
  have lb : b.length = m := by
    obtain ⟨A, c, _, _, _, h, _⟩ := hb
    simpa [u8s] using h
  have LT := Lib.hid lt
  have LB := Lib.hid lb
  have hm : m ≤ 9223372036854775807 := by
    obtain ⟨A, c, _, h1, h2, _⟩ := hb
    unfold maxLen at h2; omega
  obtain ⟨A, c, rfl, _, _⟩ := ht.len
  obtain ⟨A2, c2, rfl, _, _⟩ := hb.len
  clear ht hb lt lb
  go_enter Try.func8, Try.ntmps8
  go_wp2_with fail
  go_loop [5, 13] (fun n i => ∃ (k : Nat), k ≤ m ∧ i = .int .i64 k ∧ n = .int .u32 (upN t 4294967295 (b.take k) : Nat)) (fun _ i => m - (intOf i).toNat)
  case atStart => exact ⟨0, by omega, rfl, by rw [List.take_zero, upN_nil]; rfl⟩
  case round =>
    obtain ⟨k, hk, rfl, rfl⟩ := hrel
    obtain ⟨y, hy⟩ : ∃ y, y = upN t 4294967295 (b.take k) := ⟨_, rfl⟩
    have hy2 : y < 4294967296 := hy ▸ upN_lt HT2.out _ (by omega)
    rw [← hy]
    have HY := Lib.hid hy
    clear hy
    by_cases hlt : k < m
    · obtain ⟨z, hz⟩ : ∃ z, z = b.getD k 0 := ⟨_, rfl⟩
      have hz2 : z < 256 := by
        rw [hz, List.getD_eq_getElem?_getD, List.getElem?_eq_getElem (by rw [LB.out]; exact hlt)]
        exact HB2.out _ (List.getElem_mem _)
      obtain ⟨ad2, rfl, hc2⟩ := HB.out.at_ hlt
      rw [u8s_getD _ _ (by rw [LB.out]; exact hlt), ← hz] at hc2
      obtain ⟨j, hj⟩ : ∃ j : Nat, j = (y % 256) ^^^ z := ⟨_, rfl⟩
      have hj2 : j < 256 := hj ▸ Nat.xor_lt_two_pow (n := 8) (by omega) hz2
      have hbj : bits BinOp.xor IntKind.u8 ((y : Int) % 256) (z : Int) = (j : Int) := by
        rw [hj]
        exact bits_xor_u8 (y % 256) z (by omega) hz2
      obtain ⟨ad, rfl, hc⟩ := HT.out.at_ hj2
      obtain ⟨x, hx⟩ : ∃ x, x = t.getD j 0 := ⟨_, rfl⟩
      rw [u32s_getD _ _ (by rw [LT.out]; exact hj2), ← hx] at hc
      have hx2 : x < 4294967296 := by
        rw [hx, List.getD_eq_getElem?_getD, List.getElem?_eq_getElem (by rw [LT.out]; exact hj2)]
        exact HT2.out _ (List.getElem_mem _)
      have hs : upN t 4294967295 (b.take (k + 1)) = (y / 256) ^^^ x := by
        have e : b.take (k + 1) = b.take k ++ [z] := by
          rw [List.take_succ_eq_append_getElem (by rw [LB.out]; exact hlt), hz, List.getD_eq_getElem?_getD, List.getElem?_eq_getElem (by rw [LB.out]; exact hlt)]
          rfl
        rw [e, upN_snoc, ← HY.out, stN, ← hj, ← hx]
      have hbs : bits BinOp.xor IntKind.u32 ((y : Int) / 256) (x : Int) = ((upN t 4294967295 (b.take (k + 1)) : Nat) : Int) := by
        rw [hs]
        exact bits_xor_u32 (y / 256) x (by omega) hx2
      have HBS := Lib.hid hbs
      clear hbs hs hx hj hz
      go_wp2_with fail
      go_round
      case rel => exact ⟨k + 1, by omega, by go_num, by rw [HBS.out]⟩
      case measure => simp [intOf]; omega
    · obtain rfl : k = m := by omega
      have hbs : bits BinOp.xor IntKind.u32 IntKind.u32.max (y : Int) = ((ofN t b : Nat) : Int) := by
        rw [ofN, if_neg (by rw [LT.out]; omega), ← List.take_of_length_le (l := b) (i := k) (by rw [LB.out]; omega), ← HY.out]
        exact bits_xor_u32 4294967295 y (by omega) hy2
      have HBS := Lib.hid hbs
      clear hbs
      go_wp2_with fail
      go_ret
      exact ⟨ret_int (by rw [HBS.out]), rfl⟩
theorem copy_any (w : World) (v : Value) (n : Nat) (xs : List Value) (h : Sl w 1 v n xs) (hn : n ≤ 140737488355328) :
    Calls Try.prog 10 #[v] w fun e w' => ∃ v', e = .returned v' ∧ w'.ownsRow w.heap.size 5 1 v' n xs ∧ Below w.heap.size w w' := by
  have H := Lib.hid h
  have HI := Lib.hid Try.info5
  clear h
  go_enter Try.func10, Try.ntmps10
  go_wp2_with (at_builtin; refine wp_app w.heap.size rfl _ _ 22 5 (.int .u8 0) 1 1 rfl Try.underlying22 HI.out rfl (by omega) (by omega) rfl rfl (World.ownsRow_nil _ _ _ _) H.out (by omega) (Nat.le_refl _) ?_; intro v1 w1 hown hfr hat)
  simp only [Nat.zero_add, List.nil_append] at hown
  have HO := Lib.hid hown
  have HB : Hid (Below w.heap.size w w1) := Frm.below (Below.refl _ _) hfr (Nat.le_refl _) (fun g hg => by cases hg)
  clear hown hfr hat
  go_wp2_with fail
  go_ret
  exact ⟨_, rfl, HO.out, HB.out⟩

theorem cut_any (w : World) (v : Value) (n : Nat) (xs : List Value) (m : Nat) (h : Sl w 1 v n xs) (hm : m ≤ 1000000) :
    Calls Try.prog 6 #[v, .int .i64 m] w fun e w' => ∃ v', e = .returned v' ∧ w'.ownsRow w.heap.size 5 1 v' (min n m) (xs.take m) ∧ Below w.heap.size w w' := by
  obtain ⟨A, c, rfl, h1, h2⟩ := h.len
  have H := Lib.hid h
  unfold maxLen at h2
  have hl : xs.length = n := by
    obtain ⟨_, _, _, _, _, h, _⟩ := h
    simpa using h
  by_cases hmn : m < n
  · rw [show min n m = m from by omega]
    have HS := Lib.hid (H.out.take (Nat.le_of_lt hmn))
    clear h hl
    go_enter Try.func6, Try.ntmps6
    go_wp2_with fail
    refine (copy_any _ _ _ _ HS.out (by omega)).mono ?_
    rintro e w1 ⟨v', rfl, ho, hb⟩
    have HO := Lib.hid ho
    have HB := Lib.hid hb
    clear ho hb
    go_wp2_with fail
    go_ret
    exact ⟨_, rfl, HO.out, HB.out⟩
  · rw [show min n m = n from by omega, List.take_of_length_le (by omega)]
    clear h hl
    have hn : n ≤ 1000000 := by omega
    go_enter Try.func6, Try.ntmps6
    go_wp2_with fail
    refine (copy_any _ _ _ _ H.out (by omega)).mono ?_
    rintro e w1 ⟨v', rfl, ho, hb⟩
    have HO := Lib.hid ho
    have HB := Lib.hid hb
    clear ho hb
    go_wp2_with fail
    go_ret
    exact ⟨_, rfl, HO.out, HB.out⟩

/-- The text 123456789 as bytes. -/
def nine : List Nat := [49, 50, 51, 52, 53, 54, 55, 56, 57]
theorem nine_sum : ofN (tabN 256) nine = 3421780262 := by decide +kernel

theorem wakes_any (w : World) : Calls Try.prog 11 #[] w fun e w' => e = .returned (.bool true) ∧ Below w.heap.size w w' := by
  have kc := fun (w : World) (C : Array Value) (n c : Nat) => Lib.run_convert_bytes_const (P := Try.prog) w 22 5 C n c Try.underlying22 Try.underlying5
  go_enter Try.func11, Try.ntmps11
  go_wp2_with fail
  refine (table_any _).mono ?_
  rintro e w1 ⟨v, rfl, ho, hb⟩
  have HO := Lib.hid ho
  have HB := Lib.hid hb
  have sz := hb.size
  clear ho hb
  go_wp2_with fail
  refine (of_any _ _ _ 256 9 (tabN 256) nine (Sl.of_own (HO.out.alloc _) (u32s_one _)) (Sl.box w1 5 #[.int .u8 49, .int .u8 50, .int .u8 51, .int .u8 52, .int .u8 53, .int .u8 54, .int .u8 55, .int .u8 56, .int .u8 57] 9 rfl (by simp [maxLen]) (by simp [Value.oneCell']) (9, 10)) rfl (tabN_lt 256 (by omega)) (by decide)).mono ?_
  rintro e w2 ⟨rfl, rfl⟩
  rw [nine_sum]
  go_wp2_with fail
  go_ret
  exact ⟨rfl, HB.out.alloc sz _⟩
end Go.Proofs.Ytgcolhcajmbehaa
