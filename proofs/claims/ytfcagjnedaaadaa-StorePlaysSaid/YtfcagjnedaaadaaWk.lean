/- The example of the document; rows of bytes that came in. -/
import Derived.Test.YtfcagjnedaaadaaPl
import Derived.Test.YtfcagjnedaaadaaBl
namespace Go.Proofs.Ytfcagjnedaaadaa
open Go.RowKit

set_option maxHeartbeats 4000000 in
set_option maxRecDepth 100000 in
theorem wakes_any (w : World) : Calls Try.prog 20 #[] w fun e w' => e = .returned (.bool true) ∧ Below w.heap.size w w' := by
  go_enter Try.func20, Try.ntmps20
  go_wp2_with fail
  refine (new_any _).mono ?_
  rintro e w1 ⟨g, b, rfl, hg, hb, hs, hb1⟩
  have HS1 := Lib.hid hs
  have HB1 := Lib.hid hb1
  have s1 : w.heap.size ≤ w1.heap.size := hb1.size
  have ngb : Hid (∀ j, j = g ∨ j = b → w.heap.size ≤ j) := Lib.hid (fun j hj => by omega)
  have hgl := hs.glt
  have hbl := hs.blt
  clear hs hb1
  go_wp2_with fail
  refine (blocks_any g b _ _ _ _ _ HS1.out (by omega)).mono ?_
  rintro e w2 ⟨v, ss, rfl, _, hm, _, hl, hrow, hb2⟩
  obtain rfl : ss = [] := List.eq_nil_of_length_eq_zero (by omega)
  obtain ⟨A, c, rfl⟩ := own_slice' hrow
  have HS2 := Lib.hid (HS1.out.below hb2)
  have HB2 := Lib.hid (HB1.out.trans (hb2.mono s1))
  have s2 : w1.heap.size ≤ w2.heap.size := hb2.size
  clear hrow hb2 HS1 HB1 hm hl
  go_wp2_with fail
  have hx2 := HS2.out.below ((Below.refl _ _).alloc (Nat.le_refl _) (.cells #[.int .u8 1, .int .u8 2] 5))
  refine (app_any g b _ _ _ _ 3 _ hx2 (by decide) (some ⟨w2.heap.size, 0, none⟩) 2 2 [1, 2] (Sl.box w2 5 #[.int .u8 1, .int .u8 2] 2 rfl (by simp [maxLen]) (by simp [Value.oneCell'])) (by simp [maxLen]) (by omega) (by omega) (fun j hj => by injection hj with hj; simp only at hj; omega) 0 _ (app_new 3 [1, 2] (by omega))).mono ?_
  rintro e w3 ⟨rfl, hs3, hf3⟩
  have HS3 := Lib.hid hs3
  have HB3 := Lib.hid (Frm.below (HB2.out.alloc HB2.out.size _) hf3 (Nat.le_trans HB2.out.size (by simp)) ngb.out)
  have s3 : w1.heap.size ≤ w3.heap.size := Nat.le_trans s2 (Nat.le_trans (by simp) hf3.size)
  clear hs3 hf3 HS2 HB2 hx2
  go_wp2_with fail
  refine (sync_any g b _ _ _ _ 3 _ HS3.out (by decide) (by simp [maxLen]) 0 _ (sync_one 3 [1, 2] 0 false (by omega))).mono ?_
  rintro e w4 ⟨rfl, hs4, hf4⟩
  have HS4 := Lib.hid hs4
  have HB4 := Lib.hid (Frm.below HB3.out hf4 HB3.out.size ngb.out)
  have s4 : w1.heap.size ≤ w4.heap.size := Nat.le_trans s3 hf4.size
  clear hs4 hf4 HS3 HB3
  go_wp2_with fail
  have hx4 := HS4.out.below ((Below.refl _ _).alloc (Nat.le_refl _) (.cells #[.int .u8 9] 5))
  refine (app_any g b _ _ _ _ 3 _ hx4 (by decide) (some ⟨w4.heap.size, 0, none⟩) 1 1 [9] (Sl.box w4 5 #[.int .u8 9] 1 rfl (by simp [maxLen]) (by simp [Value.oneCell'])) (by simp [maxLen]) (by omega) (by omega) (fun j hj => by injection hj with hj; simp only at hj; omega) 0 _ (app_one 3 [1, 2] [9] _ true (by omega))).mono ?_
  rintro e w5 ⟨rfl, hs5, hf5⟩
  have HS5 := Lib.hid hs5
  have HB5 := Lib.hid (Frm.below (HB4.out.alloc HB4.out.size _) hf5 (Nat.le_trans HB4.out.size (by simp)) ngb.out)
  clear hs5 hf5 HS4 HB4 hx4
  go_wp2_with fail
  refine (crash_any g b _ _ _ _ 0 _ HS5.out (by omega) (by simp [maxLen])).mono ?_
  rintro e w6 ⟨rfl, hs6, hf6⟩
  rw [crash_one] at hs6
  have HS6 := Lib.hid hs6
  have HB6 := Lib.hid (Frm.below HB5.out hf6 HB5.out.size ngb.out)
  clear hs6 hf6 HS5 HB5
  go_wp2_with fail
  refine (read_any g b _ _ _ _ 3 (by decide) _ HS6.out (by omega)).mono ?_
  rintro e w7 ⟨v, rfl, hv, hb7⟩
  have he : (plainS (one 3 ((some (([1, 2] : List Int) ++ [9], ((([1, 2] : List Int).length : Nat) : Int), true)).bind (crash1 0)))).f 3 = some ([1, 2], 2, true) := by decide
  have he2 : bkAt (plainS (one 3 ((some (([1, 2] : List Int) ++ [9], ((([1, 2] : List Int).length : Nat) : Int), true)).bind (crash1 0)))).f 3 = ([1, 2], 2, true) := by unfold bkAt; rw [he]; rfl
  rw [he2] at hv
  rw [he]
  have HV := Lib.hid (Sl.of_own hv (u8s_one _))
  have HB7 := Lib.hid (HB6.out.trans (hb7.mono HB6.out.size))
  clear hv hb7 HS6 HB6
  go_wp2_with fail
  refine (sameb_any _ _ _ 2 [1, 2] (HV.out.alloc _) (Sl.box w7 5 #[.int .u8 1, .int .u8 2] 2 rfl (by simp [maxLen]) (by simp [Value.oneCell']))).mono ?_
  rintro e _ ⟨rfl, m, rfl⟩
  go_wp2_with fail
  go_ret
  exact ⟨rfl, (HB7.out.alloc HB7.out.size _).drewN'' m⟩

theorem bytes_of_row {w : World} {a : Option Addr} {len cap : Nat} {zs : List Int} (h : (a = none ∧ len = 0 ∧ cap = 0 ∧ zs = []) ∨
  ∃ x, a = some x ∧ len ≤ cap ∧ cap ≤ maxLen ∧ zs.length = cap ∧ (∀ i, i < zs.length → w.cell? (x.add i) = some (.int .u8 (zs.getD i 0))) ∧ ∀ n ∈ zs, (Lit.int .u8 n).wf = true) :
    ∃ l : List Int, Sl w 1 (.slice a len cap) len (u8s l) ∧ (∀ n ∈ l, (Lit.int .u8 n).wf = true) := by
  rcases h with ⟨rfl, rfl, rfl, rfl⟩ | ⟨x, rfl, hl, hm, hz, hc, hw⟩
  · exact ⟨[], Sl.nil w 1, by simp⟩
  · refine ⟨zs.take len, ⟨some x, cap, rfl, hl, hm, by simp [u8s]; omega, u8s_one _, fun _ => ⟨x, rfl, fun j u hj => ?_⟩⟩, fun n hn => hw n (List.mem_of_mem_take hn)⟩
    simp only [u8s, List.getElem?_map, Option.map_eq_some_iff] at hj
    obtain ⟨z, hz1, rfl⟩ := hj
    rw [List.getElem?_take] at hz1
    split at hz1
    · have hj2 : j < zs.length := (List.getElem?_eq_some_iff.1 hz1).1
      rw [hc j hj2, List.getD_eq_getElem?_getD, hz1]
      rfl
    · cases hz1
end Go.Proofs.Ytfcagjnedaaadaa
