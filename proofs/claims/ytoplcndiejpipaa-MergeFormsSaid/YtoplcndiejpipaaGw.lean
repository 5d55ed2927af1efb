/- MergeForms' walk. -/
import Derived.Test.YtoplcndiejpipaaGb

import Derived.Deep.RegionLaw
namespace Go.Proofs.Ytoplcndiejpipaa
open Go.RowKit
set_option linter.unusedVariables false
set_option linter.unusedSimpArgs false
def specsF (n : Int) (g : Nat) : List Sp := [.val (.int .i64 n), .any, .any, .tickp g (tickE n), .any, .any, .any, .any, .any, .any, .any, .any, .any, .any, .any, .any, .any, .val (eaggB (tickE n)), .val (eaggB (tickE n)), .er [tickE n, tickE n], .val (eaggB (tickE n)), .er [tickE n], .ir [0, 0, 1], .tr ([tickE n, tickE n], [tickE n], [0, 0, 1], 0, 0, true), .val (.int .i64 n), .val (eaggB (cameE n)), .val (eaggB (tickE n)), .er [cameE n, tickE n], .val (eaggB (tickE n)), .val (.int .i64 n), .val (eaggB (sentE n)), .val (eaggB (tickE n)), .er [tickE n, sentE n, tickE n], .ir [1, 1, 0, 0, 1], .tr ([cameE n, tickE n], [tickE n, sentE n, tickE n], [1, 1, 0, 0, 1], 0, 0, true), .val (.int .i64 n), .val (eaggB (sentE n)), .val (eaggB (cameE 5)), .er [sentE n, cameE 5], .val (.int .i64 n), .val (eaggB (cameE n)), .val (eaggB (sentE 5)), .er [cameE n, sentE 5], .ir [0, 1, 1, 0], .tr ([sentE n, cameE 5], [cameE n, sentE 5], [0, 1, 1, 0], 0, 0, true), .val (.int .i64 n), .val (eaggB (cameE n)), .er [cameE n], .val (.int .i64 n), .val (eaggB (cameE n)), .er [cameE n], .tr ([cameE n], [cameE n], [], 0, 0, false), .val (.int .i64 n), .val (eaggB (cameE n)), .val (.int .i64 n), .val (eaggB (sentE n)), .er [cameE n, sentE n], .val (.int .i64 n), .val (eaggB (cameE n)), .val (.int .i64 n), .val (eaggB (sentE n)), .er [cameE n, sentE n], .tr ([cameE n, sentE n], [cameE n, sentE n], [], 0, 0, false), .val (.int .i64 n), .val (eaggB (sentE n)), .val (.int .i64 n), .val (eaggB (sentE n)), .er [sentE n, sentE n], .val (eaggB (tickE n)), .val (.int .i64 n), .val (eaggB (cameE n)), .val (.int .i64 n), .val (eaggB (cameE n)), .val (.int .i64 n), .val (.int .i64 (n + 1)), .val (eaggB (cameE (n + 1))), .er [tickE n, cameE n, cameE n, cameE (n + 1)], .tr ([sentE n, sentE n], [tickE n, cameE n, cameE n, cameE (n + 1)], [], 3, 1, false), .val (eaggB (tickE n)), .val (.int .i64 n), .val (eaggB (cameE n)), .er [tickE n, cameE n], .val (eaggB (tickE n)), .val (.int .i64 n), .val (.int .i64 (n + 1)), .val (eaggB (sentE (n + 1))), .er [tickE n, sentE (n + 1)], .tr ([tickE n, cameE n], [tickE n, sentE (n + 1)], [], 1, 0, false), .val (.int .i64 n), .val (eaggB (sentE n)), .val (.int .i64 n), .val (eaggB (sentE n)), .er [sentE n, sentE n], .ir [1, 1], .tr ([], [sentE n, sentE n], [1, 1], 0, 0, true), .val (.int .i64 n), .val (eaggB (sentE n)), .val (.int .i64 n), .val (eaggB (cameE n)), .er [sentE n, cameE n], .tr ([sentE n, cameE n], [], [], 1, 0, false), .trs (formsL n), .val (.int .i64 9), .val (.int .i64 0)]
def okF (n : Int) (g : Nat) (t : Tmp) (v : Value) (w : World) : Prop := ((specsF n g).getD t .any).ok v w
set_option maxHeartbeats 16000000 in
set_option maxRecDepth 100000 in
theorem forms_walk (a0 : Int) (w0 : (Lit.int .i64 a0).wf = true) (w : World) :
    Calls Try.prog 3 #[.int .i64 a0] w fun e w' => e = .returned (.bool true) ∧ Below w.heap.size w w' := by
  obtain ⟨n, hn⟩ : ∃ n, n = 1 + a0 % 50 := ⟨_, rfl⟩
  have hn1 : 1 ≤ n := by have := Int.emod_nonneg a0 (show (50 : Int) ≠ 0 by decide); omega
  have hn2 : n ≤ 50 := by have := Int.emod_lt_of_pos a0 (show (0 : Int) < 50 by decide); omega
  go_enter Try.func3, Try.ntmps3
  go_wp2_with fail
  refine (within_any a0 50 w (by decide) (by decide)).mono ?_
  rintro r _ ⟨rfl, rfl⟩
  have iw : IntKind.i64.wrap (1 + a0 % 50) = 1 + a0 % 50 := IntWalk.i64_in _ ⟨by omega, by omega⟩
  have iw1 : IntKind.i64.wrap (n + 1) = n + 1 := IntWalk.i64_in _ ⟨by omega, by omega⟩
  go_wp2_with fail
  rw [← hn]
  have TK := Blk.new w (ecells (tickE n) (nilV, nilV)).toArray 27
  have hg : ∃ g, g = w.heap.size := ⟨_, rfl⟩
  obtain ⟨g, hg⟩ := hg
  rw [← hg] at TK ⊢
  have hb1 : Below w.heap.size w (w.alloc (.cells (ecells (tickE n) (nilV, nilV)).toArray 27)) := (Below.refl _ _).alloc (Nat.le_refl _) _
  refine wp_region_each (by kernel_rfl) 176 [0, 3] (by kernel_rfl) (by kernel_rfl) (okF n g) (fun t v w w' h k => Sp.mono _ _ _ _ h k) ?_ ?_ ?_
  · intro t ht
    rcases (by simpa using ht : t = 0 ∨ t = 3) with rfl | rfl
    · rfl
    · exact ⟨rfl, TK⟩
  · exact .cons (st_load (g := g) (e := tickE n) (fun _ _ h => h) (fun _ _ h => h)) (
      .cons (st_load (g := g) (e := tickE n) (fun _ _ h => h) (fun _ _ h => h)) (
      .cons (st_box2 (e1 := tickE n) (e2 := tickE n) (fun _ _ h => h) (fun _ _ h => h) (by unfold Bare; simp [sentE, cameE, tickE]) (fun _ _ h => h)) (
      .cons (st_load (g := g) (e := tickE n) (fun _ _ h => h) (fun _ _ h => h)) (
      .cons (st_box1 (e1 := tickE n) (fun _ _ h => h) (by unfold Bare; simp [sentE, cameE, tickE]) (fun _ _ h => h)) (
      .cons (st_ibox3 (fun _ _ h => h)) (
      .cons (st_str_sss (la := [tickE n, tickE n]) (lb := [tickE n]) (li := [0, 0, 1]) (fun _ _ h => h) (fun _ _ h => h) (fun _ _ h => h) (fun _ _ h => h)) (
      .cons (st_move (u := .int .i64 n) (fun _ _ h => h) (fun _ _ h => h)) (
      .cons (st_came (n := n) (fun _ _ h => h) (fun _ _ h => h)) (
      .cons (st_load (g := g) (e := tickE n) (fun _ _ h => h) (fun _ _ h => h)) (
      .cons (st_box2 (e1 := cameE n) (e2 := tickE n) (fun _ _ h => h) (fun _ _ h => h) (by unfold Bare; simp [sentE, cameE, tickE]) (fun _ _ h => h)) (
      .cons (st_load (g := g) (e := tickE n) (fun _ _ h => h) (fun _ _ h => h)) (
      .cons (st_move (u := .int .i64 n) (fun _ _ h => h) (fun _ _ h => h)) (
      .cons (st_sent (n := n) (fun _ _ h => h) (fun _ _ h => h)) (
      .cons (st_load (g := g) (e := tickE n) (fun _ _ h => h) (fun _ _ h => h)) (
      .cons (st_box3 (e1 := tickE n) (e2 := sentE n) (e3 := tickE n) (fun _ _ h => h) (fun _ _ h => h) (fun _ _ h => h) (by unfold Bare; simp [sentE, cameE, tickE]) (fun _ _ h => h)) (
      .cons (st_ibox5 (fun _ _ h => h)) (
      .cons (st_str_sss (la := [cameE n, tickE n]) (lb := [tickE n, sentE n, tickE n]) (li := [1, 1, 0, 0, 1]) (fun _ _ h => h) (fun _ _ h => h) (fun _ _ h => h) (fun _ _ h => h)) (
      .cons (st_move (u := .int .i64 n) (fun _ _ h => h) (fun _ _ h => h)) (
      .cons (st_sent (n := n) (fun _ _ h => h) (fun _ _ h => h)) (
      .cons (st_cameC (n := 5) (fun _ _ h => h)) (
      .cons (st_box2 (e1 := sentE n) (e2 := cameE 5) (fun _ _ h => h) (fun _ _ h => h) (by unfold Bare; simp [sentE, cameE, tickE]) (fun _ _ h => h)) (
      .cons (st_move (u := .int .i64 n) (fun _ _ h => h) (fun _ _ h => h)) (
      .cons (st_came (n := n) (fun _ _ h => h) (fun _ _ h => h)) (
      .cons (st_sentC (n := 5) (fun _ _ h => h)) (
      .cons (st_box2 (e1 := cameE n) (e2 := sentE 5) (fun _ _ h => h) (fun _ _ h => h) (by unfold Bare; simp [sentE, cameE, tickE]) (fun _ _ h => h)) (
      .cons (st_ibox4 (fun _ _ h => h)) (
      .cons (st_str_sss (la := [sentE n, cameE 5]) (lb := [cameE n, sentE 5]) (li := [0, 1, 1, 0]) (fun _ _ h => h) (fun _ _ h => h) (fun _ _ h => h) (fun _ _ h => h)) (
      .cons (st_move (u := .int .i64 n) (fun _ _ h => h) (fun _ _ h => h)) (
      .cons (st_came (n := n) (fun _ _ h => h) (fun _ _ h => h)) (
      .cons (st_box1 (e1 := cameE n) (fun _ _ h => h) (by unfold Bare; simp [sentE, cameE, tickE]) (fun _ _ h => h)) (
      .cons (st_move (u := .int .i64 n) (fun _ _ h => h) (fun _ _ h => h)) (
      .cons (st_came (n := n) (fun _ _ h => h) (fun _ _ h => h)) (
      .cons (st_box1 (e1 := cameE n) (fun _ _ h => h) (by unfold Bare; simp [sentE, cameE, tickE]) (fun _ _ h => h)) (
      .cons (st_str_ssn (la := [cameE n]) (lb := [cameE n]) (li := []) (fun _ _ h => h) (fun _ _ h => h) (fun _ _ h => h)) (
      .cons (st_move (u := .int .i64 n) (fun _ _ h => h) (fun _ _ h => h)) (
      .cons (st_came (n := n) (fun _ _ h => h) (fun _ _ h => h)) (
      .cons (st_move (u := .int .i64 n) (fun _ _ h => h) (fun _ _ h => h)) (
      .cons (st_sent (n := n) (fun _ _ h => h) (fun _ _ h => h)) (
      .cons (st_box2 (e1 := cameE n) (e2 := sentE n) (fun _ _ h => h) (fun _ _ h => h) (by unfold Bare; simp [sentE, cameE, tickE]) (fun _ _ h => h)) (
      .cons (st_move (u := .int .i64 n) (fun _ _ h => h) (fun _ _ h => h)) (
      .cons (st_came (n := n) (fun _ _ h => h) (fun _ _ h => h)) (
      .cons (st_move (u := .int .i64 n) (fun _ _ h => h) (fun _ _ h => h)) (
      .cons (st_sent (n := n) (fun _ _ h => h) (fun _ _ h => h)) (
      .cons (st_box2 (e1 := cameE n) (e2 := sentE n) (fun _ _ h => h) (fun _ _ h => h) (by unfold Bare; simp [sentE, cameE, tickE]) (fun _ _ h => h)) (
      .cons (st_str_ssn (la := [cameE n, sentE n]) (lb := [cameE n, sentE n]) (li := []) (fun _ _ h => h) (fun _ _ h => h) (fun _ _ h => h)) (
      .cons (st_move (u := .int .i64 n) (fun _ _ h => h) (fun _ _ h => h)) (
      .cons (st_sent (n := n) (fun _ _ h => h) (fun _ _ h => h)) (
      .cons (st_move (u := .int .i64 n) (fun _ _ h => h) (fun _ _ h => h)) (
      .cons (st_sent (n := n) (fun _ _ h => h) (fun _ _ h => h)) (
      .cons (st_box2 (e1 := sentE n) (e2 := sentE n) (fun _ _ h => h) (fun _ _ h => h) (by unfold Bare; simp [sentE, cameE, tickE]) (fun _ _ h => h)) (
      .cons (st_load (g := g) (e := tickE n) (fun _ _ h => h) (fun _ _ h => h)) (
      .cons (st_move (u := .int .i64 n) (fun _ _ h => h) (fun _ _ h => h)) (
      .cons (st_came (n := n) (fun _ _ h => h) (fun _ _ h => h)) (
      .cons (st_move (u := .int .i64 n) (fun _ _ h => h) (fun _ _ h => h)) (
      .cons (st_came (n := n) (fun _ _ h => h) (fun _ _ h => h)) (
      .cons (st_move (u := .int .i64 n) (fun _ _ h => h) (fun _ _ h => h)) (
      .cons (st_add (n := n) iw1 (fun _ _ h => h) (fun _ _ h => h)) (
      .cons (st_came (n := (n + 1)) (fun _ _ h => h) (fun _ _ h => h)) (
      .cons (st_box4 (e1 := tickE n) (e2 := cameE n) (e3 := cameE n) (e4 := cameE (n + 1)) (fun _ _ h => h) (fun _ _ h => h) (fun _ _ h => h) (fun _ _ h => h) (by unfold Bare; simp [sentE, cameE, tickE]) (fun _ _ h => h)) (
      .cons (st_str_ssn (la := [sentE n, sentE n]) (lb := [tickE n, cameE n, cameE n, cameE (n + 1)]) (li := []) (fun _ _ h => h) (fun _ _ h => h) (fun _ _ h => h)) (
      .cons (st_load (g := g) (e := tickE n) (fun _ _ h => h) (fun _ _ h => h)) (
      .cons (st_move (u := .int .i64 n) (fun _ _ h => h) (fun _ _ h => h)) (
      .cons (st_came (n := n) (fun _ _ h => h) (fun _ _ h => h)) (
      .cons (st_box2 (e1 := tickE n) (e2 := cameE n) (fun _ _ h => h) (fun _ _ h => h) (by unfold Bare; simp [sentE, cameE, tickE]) (fun _ _ h => h)) (
      .cons (st_load (g := g) (e := tickE n) (fun _ _ h => h) (fun _ _ h => h)) (
      .cons (st_move (u := .int .i64 n) (fun _ _ h => h) (fun _ _ h => h)) (
      .cons (st_add (n := n) iw1 (fun _ _ h => h) (fun _ _ h => h)) (
      .cons (st_sent (n := (n + 1)) (fun _ _ h => h) (fun _ _ h => h)) (
      .cons (st_box2 (e1 := tickE n) (e2 := sentE (n + 1)) (fun _ _ h => h) (fun _ _ h => h) (by unfold Bare; simp [sentE, cameE, tickE]) (fun _ _ h => h)) (
      .cons (st_str_ssn (la := [tickE n, cameE n]) (lb := [tickE n, sentE (n + 1)]) (li := []) (fun _ _ h => h) (fun _ _ h => h) (fun _ _ h => h)) (
      .cons (st_move (u := .int .i64 n) (fun _ _ h => h) (fun _ _ h => h)) (
      .cons (st_sent (n := n) (fun _ _ h => h) (fun _ _ h => h)) (
      .cons (st_move (u := .int .i64 n) (fun _ _ h => h) (fun _ _ h => h)) (
      .cons (st_sent (n := n) (fun _ _ h => h) (fun _ _ h => h)) (
      .cons (st_box2 (e1 := sentE n) (e2 := sentE n) (fun _ _ h => h) (fun _ _ h => h) (by unfold Bare; simp [sentE, cameE, tickE]) (fun _ _ h => h)) (
      .cons (st_ibox2 (fun _ _ h => h)) (
      .cons (st_str_nss (la := []) (lb := [sentE n, sentE n]) (li := [1, 1]) (fun _ _ h => h) (fun _ _ h => h) (fun _ _ h => h)) (
      .cons (st_move (u := .int .i64 n) (fun _ _ h => h) (fun _ _ h => h)) (
      .cons (st_sent (n := n) (fun _ _ h => h) (fun _ _ h => h)) (
      .cons (st_move (u := .int .i64 n) (fun _ _ h => h) (fun _ _ h => h)) (
      .cons (st_came (n := n) (fun _ _ h => h) (fun _ _ h => h)) (
      .cons (st_box2 (e1 := sentE n) (e2 := cameE n) (fun _ _ h => h) (fun _ _ h => h) (by unfold Bare; simp [sentE, cameE, tickE]) (fun _ _ h => h)) (
      .cons (st_str_snn (la := [sentE n, cameE n]) (lb := []) (li := []) (fun _ _ h => h) (fun _ _ h => h)) (
      .cons (st_box9 (x1 := ([tickE n, tickE n], [tickE n], [0, 0, 1], 0, 0, true)) (x2 := ([cameE n, tickE n], [tickE n, sentE n, tickE n], [1, 1, 0, 0, 1], 0, 0, true)) (x3 := ([sentE n, cameE 5], [cameE n, sentE 5], [0, 1, 1, 0], 0, 0, true)) (x4 := ([cameE n], [cameE n], [], 0, 0, false)) (x5 := ([cameE n, sentE n], [cameE n, sentE n], [], 0, 0, false)) (x6 := ([sentE n, sentE n], [tickE n, cameE n, cameE n, cameE (n + 1)], [], 3, 1, false)) (x7 := ([tickE n, cameE n], [tickE n, sentE (n + 1)], [], 1, 0, false)) (x8 := ([], [sentE n, sentE n], [1, 1], 0, 0, true)) (x9 := ([sentE n, cameE n], [], [], 1, 0, false)) (fun _ _ h => h) (fun _ _ h => h) (fun _ _ h => h) (fun _ _ h => h) (fun _ _ h => h) (fun _ _ h => h) (fun _ _ h => h) (fun _ _ h => h) (fun _ _ h => h) (fun _ _ h => h)) (
      .cons (st_len (xs := formsL n) (fun _ _ h => h) (fun _ _ h => h)) (
      .cons (st_const (u := .int .i64 0) (fun _ _ h => h)) (.nil)))))))))))))))))))))))))))))))))))))))))))))))))))))))))))))))))))))))))))))))))))))))
  · intro f w1 L hL hf hb
    have hL2 : L = #[.int .i64 n, undef, .bool false, .pointer (some ⟨g, 0, none⟩), undef, undef, undef, undef, undef, undef, undef, undef, .int .i64 a0, .int .i64 (a0 % 50), .int .i64 n, .int .i64 n, eaggB (tickE n), f 17, f 18, f 19, f 20, f 21, f 22, f 23, f 24, f 25, f 26, f 27, f 28, f 29, f 30, f 31, f 32, f 33, f 34, f 35, f 36, f 37, f 38, f 39, f 40, f 41, f 42, f 43, f 44, f 45, f 46, f 47, f 48, f 49, f 50, f 51, f 52, f 53, f 54, f 55, f 56, f 57, f 58, f 59, f 60, f 61, f 62, f 63, f 64, f 65, f 66, f 67, f 68, f 69, f 70, f 71, f 72, f 73, f 74, f 75, f 76, f 77, f 78, f 79, f 80, f 81, f 82, f 83, f 84, f 85, f 86, f 87, f 88, f 89, f 90, f 91, f 92, f 93, f 94, f 95, f 96, f 97, f 98, f 99, f 100, f 101, f 102, f 103, undef, undef, undef, undef, undef, undef, undef, undef, undef, undef, undef, undef, undef, undef, undef, undef, undef, undef, undef, undef, undef, undef, undef, undef, undef, undef, undef, undef, undef, undef, undef, undef, undef, undef, undef, undef, undef, undef, undef, undef, undef, undef, undef, undef, undef, undef, undef, undef, undef, undef, undef, undef, undef, undef, undef, undef, undef, undef, undef, undef, undef, undef, undef, undef, undef, undef, undef, undef, undef, undef, undef, undef] := hL.trans (by kernel_rfl)
    subst hL2
    clear hL
    have HT : Sp.ok (.trs (formsL n)) (f 101) w1 := hf 101 (by kernel_rfl)
    have h102 : f 102 = .int .i64 9 := hf 102 (by kernel_rfl)
    have h103 : f 103 = .int .i64 0 := hf 103 (by kernel_rfl)
    clear hf
    obtain ⟨c, h101, ht⟩ := HT
    rw [h101, h102, h103]
    rw [h101] at ht
    have H := Lib.hid ht
    have BB := Lib.hid (hb1.on (Nat.le_refl _) hb)
    have hB : w.heap.size ≤ w1.heap.size := BB.out.size
    clear h101 h102 h103 ht hb hb1 TK hg hn iw
    go_wp2_with fail
    go_loopw [103] (fun i wr => ∃ k : Nat, k ≤ 9 ∧ i = .int .i64 k ∧ Below w1.heap.size w1 wr) (fun i _ => 9 - (intOf i).toNat)
    case atStart => exact ⟨0, Nat.zero_le _, rfl, Below.refl _ _⟩
    case round =>
      obtain ⟨k, hk, rfl, hbr⟩ := hrel
      have BR := Lib.hid hbr
      have sr : w1.heap.size ≤ wr.heap.size := hbr.size
      clear hbr
      have iwk : IntKind.i64.wrap ((k : Int) + 1) = (k : Int) + 1 := IntWalk.i64_in _ ⟨by omega, by omega⟩
      by_cases hk9 : k < 9
      · have k0 : (0 : Int) ≤ (k : Int) := by omega
        have k1 : (k : Int) < 9 := by omega
        obtain ⟨ad, ⟨xa, xb, xs, at_, s_, ok_⟩, ⟨va, vb, vs⟩, had, hx, htr, hc⟩ := RowV.at_ (show RowV tcells 6 TR wr (.slice c (formsL n).length (formsL n).length) (formsL n) from RowV.below H.out BR.out (fun a b hab => hab.below BR.out)) (by omega) (fun _ _ => rfl) (show k < (formsL n).length from hk9)
        subst had
        have c0 := hc 0 _ rfl
        rw [addr_zero] at c0
        have g := fun (j : Nat) (hj : j ≠ 0) (u : Value) (hu : (tcells (xa, xb, xs, at_, s_, ok_) (va, vb, vs))[j]? = some u) => by
          have := hc j u hu
          rw [addr_pos _ _ hj] at this
          exact this
        have c1 := g 1 (by omega) _ rfl
        have c2 := g 2 (by omega) _ rfl
        have c3 := g 3 (by omega) _ rfl
        have c4 := g 4 (by omega) _ rfl
        have c5 := g 5 (by omega) _ rfl
        clear g hc
        simp only at c0 c1 c2 c3 c4 c5
        have hmem := List.mem_of_getElem? hx
        have hfo := forms_ok n hn1 hn2 _ hmem
        obtain ⟨fl, fb⟩ := forms_small n _ hmem
        have hja : J xa xb = ((J xa xb).1, at_, s_, ok_) := by
          simp only [formOk, Bool.and_eq_true, beq_iff_eq] at hfo
          obtain ⟨⟨⟨⟨h1, h2⟩, h3⟩, h4⟩, _⟩ := hfo
          rw [← h1, ← h2, ← h3]
        have hjs : (J xa xb).1.map (·.1) = xs := by
          simp only [formOk, Bool.and_eq_true, beq_iff_eq] at hfo
          exact hfo.1.2
        obtain ⟨l, hl⟩ : ∃ l, l = (J xa xb).1 := ⟨_, rfl⟩
        rw [← hl] at hja hjs
        have hri : ok_ = true → Right xa xb l := fun hok => by
          rcases join_half xa xb (xa.length + xb.length + 1) 0 0 [] (by omega) (half_nil xa xb) with ⟨m, h1, h2⟩ | ⟨m0, m1, p, q, h1, _⟩
          · have : J xa xb = (m, 0, 0, true) := h1
            rw [hja] at this
            injection this with this
            rw [this]
            exact h2
          · have : J xa xb = ([], p, q, false) := h1
            rw [hja, hok] at this
            injection this with _ this
            injection this with _ this
            injection this with _ this
            cases this
        have hxl : xs.length = l.length := by rw [← hjs, List.length_map]
        have LL := Lib.hid (show l.length ≤ 1000 by rw [← hxl]; have h := forms_short n _ hmem; simp only at h; omega)
        obtain ⟨Aa, ca, ea, _⟩ := RowV.len htr.a
        obtain ⟨Ab, cb, eb, _⟩ := RowV.len htr.b
        obtain ⟨Ai, ci, ei, _⟩ := Sl.len htr.i
        simp only at ea eb ei
        subst ea eb ei
        rw [hxl] at c2
        have TRH := Lib.hid htr
        have JA := Lib.hid hja
        have JS_ := Lib.hid hjs
        have RI := Lib.hid hri
        have FB := Lib.hid fb
        have FL := Lib.hid fl
        clear hx htr hmem hfo hja hjs hri fb fl hl
        go_wp2_with fail
        have k01 : Below wr.heap.size wr (wr.alloc (.cells #[.slice Aa xa.length ca, .slice Ab xb.length cb, .slice Ai l.length ci, .int .i64 at_, .int .i64 s_, .bool ok_] 30)) := (Below.refl _ _).alloc (Nat.le_refl _) _
        refine (join_at _ SN _ _ xa xb (TRH.out.a.below k01) (TRH.out.b.below k01) (by have := FL.out; omega) (by have := FL.out; omega) FB.out.1.small FB.out.2.small l at_ s_ ok_ JA.out).mono ?_
        rintro r w2 ⟨A, c, D, rfl, hr, hb2⟩
        have XB := Lib.hid ((Blk.new wr #[.slice Aa xa.length ca, .slice Ab xb.length cb, .slice Ai l.length ci, .int .i64 at_, .int .i64 s_, .bool ok_] 30).below hb2)
        have K2 := Lib.hid (unalloc hb2)
        have TR2 := Lib.hid (TRH.out.below K2.out)
        have NR := Lib.hid hr
        have hxlt : wr.heap.size < w2.heap.size := XB.out.lt
        obtain ⟨gx, hgx⟩ : ∃ g, g = wr.heap.size := ⟨_, rfl⟩
        rw [← hgx] at XB ⊢
        have hgx1 : wr.heap.size ≤ gx := by omega
        have hgx2 : gx < w2.heap.size := by omega
        clear hgx hxlt hr hb2 k01 c0 c1 c2 c3 c4 c5 TRH
        have x0 := XB.out.cell 0
        have x1 := XB.out.cell 1
        have x2 := XB.out.cell 2
        have x3 := XB.out.cell 3
        have x4 := XB.out.cell 4
        have x5 := XB.out.cell 5
        simp only [List.getElem?_toArray, List.getElem?_cons_zero, List.getElem?_cons_succ] at x0 x1 x2 x3 x4 x5
        go_wp2_with fail
        have K12 := Lib.hid (BR.out.trans (K2.out.mono sr))
        clear BR K2
        go_loopw [143] (fun i wq => ∃ j : Nat, j ≤ l.length ∧ i = .int .i64 j ∧ Below w2.heap.size w2 wq) (fun i _ => l.length - (intOf i).toNat)
        case atStart => exact ⟨0, Nat.zero_le _, rfl, Below.refl _ _⟩
        case round =>
          obtain ⟨j, hj, rfl, hbq⟩ := hrel
          have BQ := Lib.hid hbq
          have sq : w2.heap.size ≤ wr.heap.size := hbq.size
          have cl := fun {p : Addr} {v : Value} (h : w2.cell? p = some v) => (hbq.cell (World.block_lt_of_cell? w2 p h)).trans h
          have y0 := cl x0
          have y1 := cl x1
          have y2 := cl x2
          have y5 := cl x5
          clear hbq cl x0 x1 x2 x3 x4 x5
          by_cases hjl : j < l.length
          · have j0 : (0 : Int) ≤ (j : Int) := by omega
            have j1 : (j : Int) < (l.length : Int) := by omega
            have iwj : IntKind.i64.wrap ((j : Int) + 1) = (j : Int) + 1 := IntWalk.i64_in _ ⟨by omega, by have := LL.out; omega⟩
            obtain ⟨ad2, q, e, x, y, rfl, he, hx, hce⟩ := NRow.ev (NR.out.below BQ.out) hjl
            obtain ⟨a0, a1, a2, a3, a4, a5, a6, a7, a8, a9, a10, a11, a12⟩ := hce
            obtain ⟨ad3, had3, hs3⟩ := Sl.at_ (show Sl wr 1 (.slice Ai xs.length ci) xs.length (xs.map (.int .i64 ·)) from Sl.below TR2.out.i BQ.out) (show j < xs.length by omega)
            subst had3
            have hq : (xs.map (Value.int .i64 ·)).getD j undef = .int .i64 q := by
              rw [← JS_.out]
              simp [List.getD_eq_getElem?_getD, he]
            rw [hq] at hs3
            obtain ⟨X1, z1, rfl, _⟩ := hx.1.len
            obtain ⟨Y1, z2_, rfl, _⟩ := hx.2.len
            clear hx he hq
            have z2 := cell_in_alloc y2 (.cells #[.int .i64 q, .int .i64 e.kind, .int .i64 e.n, .slice X1 e.data.length z1, .int .i64 e.pk.kind, .int .i64 e.pk.path, .int .i64 e.pk.number, .int .i64 e.pk.of_, .int .i64 e.pk.from_, .slice Y1 e.pk.data.length z2_, .bool e.pk.fin, .int .i64 e.pk.seen, .int .i64 e.pk.limit] 37)
            have z3 := cell_in_alloc hs3 (.cells #[.int .i64 q, .int .i64 e.kind, .int .i64 e.n, .slice X1 e.data.length z1, .int .i64 e.pk.kind, .int .i64 e.pk.path, .int .i64 e.pk.number, .int .i64 e.pk.of_, .int .i64 e.pk.from_, .slice Y1 e.pk.data.length z2_, .bool e.pk.fin, .int .i64 e.pk.seen, .int .i64 e.pk.limit] 37)
            go_wp2_with fail
            go_quiet (fail)
            go_wp2_with fail
            go_roundw
            case rel => exact ⟨j + 1, hjl, by go_num, (BQ.out.alloc sq _).drewN'' _⟩
            case measure => simp [intOf]; omega
          · have j1 : ¬ (j : Int) < (l.length : Int) := by omega
            have KE : Hid (∀ W, Below w2.heap.size w2 W → W.cell? ⟨gx, 0, none⟩ = some (.slice Aa xa.length ca) ∧ W.cell? ⟨gx, 1, none⟩ = some (.slice Ab xb.length cb)) := Lib.hid (fun W hW => ⟨(XB.out.below hW).cell 0, (XB.out.below hW).cell 1⟩)
            have G : Hid (Below w2.heap.size w2 wr.drew) := Lib.hid BQ.out.drew
            go_wp2_with fail
            cases ok_
            · first | (go_quiet (fail)) | (go_region_held3 (fun w' => w'.cell? ⟨gx, 0, none⟩ = some (.slice Aa xa.length ca) ∧ w'.cell? ⟨gx, 1, none⟩ = some (.slice Ab xb.length cb)) (first | with_reducible exact KE.out _ G.out | go_keep) (fail)) | fail
              go_wp2_with fail
              go_roundw
              case rel => exact ⟨k + 1, hk9, by go_num, K12.out.trans ((BQ.out.drewN'' _).mono K12.out.size)⟩
              case measure => simp [intOf]; omega
            · have hR := RI.out rfl
              have R0 := hR.o0
              have R1 := hR.o1
              have SM := Lib.hid (right_small hR FB.out.1 FB.out.2)
              have hll := LL.out
              first | (go_region_held3 (fun w' => w'.cell? ⟨gx, 0, none⟩ = some (.slice Aa xa.length ca) ∧ w'.cell? ⟨gx, 1, none⟩ = some (.slice Ab xb.length cb)) (first | with_reducible exact KE.out _ G.out | go_keep) (first
                | (go_at_call 10; (with_reducible refine (only_any _ D _ l 0 (NR.out.below G.out) (by omega) SM.out).mono ?_); rintro r wz ⟨v0, S0, rfl, he_, hb_⟩; rw [R0] at he_; obtain ⟨B0, d0, rfl, _⟩ := RowV.len he_; have E0 := Lib.hid he_; have g_ := Below.on G.out (Nat.le_refl _) hb_; clear G hb_ he_; have G := Lib.hid g_; clear g_)
                | (go_at_call 10; (with_reducible refine (only_any _ D _ l 1 (NR.out.below G.out) (by omega) SM.out).mono ?_); rintro r wz ⟨v0, S0, rfl, he_, hb_⟩; rw [R1] at he_; obtain ⟨B0, d0, rfl, _⟩ := RowV.len he_; have E1 := Lib.hid he_; have g_ := Below.on G.out (Nat.le_refl _) hb_; clear G hb_ he_; have G := Lib.hid g_; clear g_)
                | (go_at_call 9; (with_reducible refine (all_at _ _ SN _ _ xa xa true (by simp) E0.out (TR2.out.a.below G.out)).mono ?_); rintro r wz ⟨rfl, hb_⟩; clear E0; have g_ := Below.on G.out (Nat.le_refl _) hb_; clear G hb_; have G := Lib.hid g_; clear g_)
                | (go_at_call 9; (with_reducible refine (all_at _ _ SN _ _ xb xb true (by simp) E1.out (TR2.out.b.below G.out)).mono ?_); rintro r wz ⟨rfl, hb_⟩; clear E1; have g_ := Below.on G.out (Nat.le_refl _) hb_; clear G hb_; have G := Lib.hid g_; clear g_))) | fail
              all_goals
                go_wp2_with fail
                go_roundw
                case rel => exact ⟨k + 1, hk9, by go_num, K12.out.trans (G.out.mono K12.out.size)⟩
                case measure => simp [intOf]; omega
      · obtain rfl : k = 9 := by omega
        have k1 : ¬ (9 : Int) < 9 := by omega
        go_wp2_with fail
        refine (wakes_any _).mono ?_
        rintro r w9 ⟨rfl, hb9⟩
        have hbb := BB.out.trans ((BR.out.trans (hb9.mono sr)).mono hB)
        clear hb9
        go_wp2_with fail
        go_ret
        exact ⟨rfl, hbb⟩
end Go.Proofs.Ytoplcndiejpipaa
