/- The contracts of bytes.Clone, slices.Grow and slices.Concat as the store calls them. -/
import Derived.Test.YtfcagjnedaaadaaFns
import Derived.LoopN
import Derived.Lib.SliceRun
namespace Go.Proofs.Ytfcagjnedaaadaa
open Go.RowKit
attribute [local go_sem] run_max2 run_min2 run_max_ run_min_

theorem Try.info5 : (Try.prog.info? 5).map (fun i => (i.zero, i.size, i.bytes)) = some (some (.int .u8 0), 1, 1) := by kernel_rfl

set_option maxRecDepth 100000 in
theorem clone_some (A : Addr) (n c : Nat) (xs : List Value) (w : World) (h : Sl w 1 (.slice (some A) n c) n xs) (hn : n ≤ 1000000) : Calls Try.prog 40 #[.slice (some A) n c] w fun e w' => ∃ v, e = .returned v ∧ w'.ownsRow w.heap.size 5 1 v n xs ∧ Below w.heap.size w w' := by
  have H := Lib.hid h
  have HI := Lib.hid Try.info5
  clear h
  have q22 : ∀ (w : World) (a : Option Addr) (n c n' c' : Nat), (binOp .eql 23 (.slice a n c) (.slice none n' c')).run Try.prog w = .ok (.bool a.isNone) w := fun w a n c n' c' => Lib.run_eql_slice_nil w _ _ a n c n' c' Try.underlying23
  have hown := World.ownsRow_made (base := w.heap.size) (e := 5) (size := 1) w #[] 0 (Nat.le_refl _) (by simp [maxLen]) (by simp)
  have hsl := H.out.alloc (.cells #[] 5)
  go_enter Try.func40, Try.ntmps40
  go_wp2_with (at_builtin; refine wp_app w.heap.size rfl _ _ 23 5 (.int .u8 0) 1 1 rfl Try.underlying23 HI.out rfl (by omega) (by omega) rfl rfl hown hsl (by omega) (by simp) ?_; intro v1 w1 hown1 hfr hat)
  go_ret
  refine ⟨_, rfl, ?_, ?_⟩
  · simpa using hown1
  · exact Frm.below ((Below.refl _ _).alloc (Nat.le_refl _) _) hfr (by simp) (fun g hg => (hown.lt g hg).1)

set_option maxRecDepth 100000 in
theorem clone_any (A : Option Addr) (n c : Nat) (xs : List Value) (w : World) (h : Sl w 1 (.slice A n c) n xs) (hn : n ≤ 1000000) : Calls Try.prog 40 #[.slice A n c] w fun e w' => ∃ v, e = .returned v ∧ w'.ownsRow w.heap.size 5 1 v n xs ∧ Below w.heap.size w w' := by
  cases A with
  | some A => exact clone_some A n c xs w h hn
  | none =>
    have q22 : ∀ (w : World) (a : Option Addr) (n c n' c' : Nat), (binOp .eql 23 (.slice a n c) (.slice none n' c')).run Try.prog w = .ok (.bool a.isNone) w := fun w a n c n' c' => Lib.run_eql_slice_nil w _ _ a n c n' c' Try.underlying23
    obtain ⟨A', c', e, h1, h2, h3, h4, h5⟩ := h
    injection e with e1 e2 e3
    subst e1
    obtain rfl : xs = [] := by
      rcases Nat.eq_zero_or_pos xs.length with h | h
      · exact List.eq_nil_of_length_eq_zero h
      · obtain ⟨ad, e, _⟩ := h5 h; cases e
    obtain rfl : n = 0 := by simp at h3; omega
    go_enter Try.func40, Try.ntmps40
    go_wp2
    go_ret
    exact ⟨_, rfl, World.ownsRow_nil _ _ _ _, Below.refl _ _⟩

theorem own_none {w : World} {base e size n : Nat} {v : Value} {xs : List Value} (h : w.ownsRow base e size v n xs) : ∃ A c, v = .slice A n c ∧ w.ownsRow base e size (.slice A 0 c) 0 [] := by
  rcases h.2 with ⟨rfl, rfl⟩ | ⟨g, cap, cur, rfl, h1, h2, h3, h4, h5, h6⟩
  · exact ⟨none, 0, rfl, World.ownsRow_nil _ _ _ _⟩
  · exact ⟨_, cap, rfl, by simp, .inr ⟨g, cap, cur, rfl, h1, h2, Nat.zero_le _, h4, h5, by simp⟩⟩

set_option maxRecDepth 100000 in
theorem grow_any (k : Nat) (w : World) (hk : k ≤ 2000000) : Calls Try.prog 51 #[.slice none 0 0, .int .i64 (k : Int)] w fun e w' => ∃ v, e = .returned v ∧ w'.ownsRow w.heap.size 5 1 v 0 [] ∧ Below w.heap.size w w' := by
  have HI := Lib.hid Try.info5
  have hmk := fun W => make_eq (P := Try.prog) 23 5 (.int .u8 0) 1 Try.underlying23 HI.out rfl k (by omega) (by omega) W
  have hmo := make_own w w.heap.size 5 (.int .u8 0) k (Nat.le_refl _) (by simp [maxLen]; omega)
  have hsl := Sl.of_own hmo (by simp [Value.oneCell'])
  by_cases hk0 : k = 0
  · subst hk0
    go_enter Try.func51, Try.ntmps51
    go_wp2_with fail
    go_ret
    exact ⟨_, rfl, World.ownsRow_nil _ _ _ _, Below.refl _ _⟩
  · have k1 : (0 : Int) < (k : Int) := by omega
    have k2 : ¬ (k : Int) < 0 := by omega
    have iw : IntKind.i64.wrap ((k : Int) - 0) = (k : Int) := by rw [Int.sub_zero]; exact IntWalk.i64_in _ ⟨by omega, by omega⟩
    have iw2 : IntKind.i64.wrap (k : Int) = (k : Int) := IntWalk.i64_in _ ⟨by omega, by omega⟩
    have iw0 : IntKind.i64.wrap 0 = 0 := by decide
    have t5 : Try.t5.bytes = 1 := by kernel_rfl
    have nx : Builtin.nextslicecap k 0 = k := nextslicecap_zero (by omega)
    have b1 : (k : Int) ≤ 281474976710656 := by omega
    have b2 : k ≤ 281474976710656 := by omega
    have b3 : (k : Int) ≤ 9223372036854775807 := by omega
    go_enter Try.func51, Try.ntmps51
    go_wp2_with fail
    go_ret
    have hge := grownCap_ge w k 0 5
    have hcm := grownCap_le_maxLen w k 0 5 (by simp only [maxLen]; omega)
    refine ⟨_, rfl, ⟨by simp, .inr ⟨w.heap.size, grownCap w k 0 5, _, rfl, Nat.le_refl _, heap_alloc_new w _, Nat.zero_le _, hcm, ?_, by simp⟩⟩, ((Below.refl _ _).alloc (Nat.le_refl _) _).drew⟩
    have hge2 : k ≤ (Question.appendCap k 0 5).cut (w.tape w.drawn (Question.appendCap k 0 5)) := hge
    simp only [Array.size_append, size_zeroCells, List.size_toArray, List.length_cons, List.length_nil]
    unfold grownCap
    omega

set_option maxRecDepth 100000 in
/-- Two slices of bytes, one behind the other. -/
theorem concat_any (b : Nat) (A B : Option Addr) (n m c d : Nat) (xs ys : List Value) (w : World) (h : Sl w 1 (.slice A n c) n xs) (k : Sl w 1 (.slice B m d) m ys) (hn : n ≤ 1000000) (hm : m ≤ 1000000)
    (hb : Blk w b #[.slice A n c, .slice B m d] 23) : Calls Try.prog 37 #[.slice (some ⟨b, 0, none⟩) 2 2] w fun e w' => ∃ v, e = .returned v ∧ w'.ownsRow w.heap.size 5 1 v (n + m) (xs ++ ys) ∧ Below w.heap.size w w' := by
  have H := Lib.hid h
  have K := Lib.hid k
  have HI := Lib.hid Try.info5
  have HB := Lib.hid hb
  have c0 := hb.cell 0
  have c1 := hb.cell 1
  simp at c0 c1
  clear h k hb
  go_enter Try.func37, Try.ntmps37
  go_wp2_with fail
  refine wp_loop_rounds 3 ?_
  rw [rounds_succ]
  go_wp2_with fail
  rw [rounds_succ]
  go_wp2_with fail
  rw [rounds_succ]
  go_wp2_with fail
  rw [← Int.natCast_add]
  refine (grow_any (n + m) w (by omega)).mono ?_
  rintro e w1 ⟨v, rfl, hv, hb1⟩
  have HV := Lib.hid hv
  have HB1 := Lib.hid hb1
  have d0 := (hb1.cell (World.block_lt_of_cell? w _ c0)).trans c0
  have d1 := (hb1.cell (World.block_lt_of_cell? w _ c1)).trans c1
  have s1 : w.heap.size ≤ w1.heap.size := hb1.size
  clear hv hb1 c0 c1
  go_wp2_with fail
  refine wp_loop_rounds 3 ?_
  rw [rounds_succ]
  go_wp2_with (at_builtin; refine wp_app w.heap.size rfl _ _ 23 5 (.int .u8 0) 1 1 rfl Try.underlying23 HI.out rfl (by omega) (by omega) rfl rfl HV.out (H.out.below HB1.out) (by omega) s1 ?_; intro v2 w2 hown2 hfr2 hat2)
  have HB2 : Hid (Below w.heap.size w w2) := Frm.below HB1.out hfr2 s1 (fun g hg => (HV.out.lt g hg).1)
  have HV2 := Lib.hid hown2
  have e1 := (HB2.out.cell (World.block_lt_of_cell? w ⟨b, 1, none⟩ (by have := HB.out.cell 1; simpa using this))).trans (by have := HB.out.cell 1; simpa using this : w.cell? ⟨b, 1, none⟩ = some (.slice B m d))
  have s2 : w.heap.size ≤ w2.heap.size := HB2.out.size
  clear hown2 hfr2 hat2
  go_wp2_with fail
  rw [rounds_succ]
  go_wp2_with (at_builtin; refine wp_app w.heap.size rfl _ _ 23 5 (.int .u8 0) 1 1 rfl Try.underlying23 HI.out rfl (by omega) (by omega) rfl rfl HV2.out (K.out.below HB2.out) (by omega) s2 ?_; intro v3 w3 hown3 hfr3 hat3)
  have HB3 : Hid (Below w.heap.size w w3) := Frm.below HB2.out hfr3 s2 (fun g hg => (HV2.out.lt g hg).1)
  have HV3 := Lib.hid hown3
  clear hown3 hfr3 hat3
  go_wp2_with fail
  rw [rounds_succ]
  go_wp2_with fail
  go_ret
  refine ⟨_, rfl, ?_, HB3.out⟩
  have := HV3.out
  simpa using this
end Go.Proofs.Ytfcagjnedaaadaa
