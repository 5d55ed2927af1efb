/- Parts of the walk: Da, Dc, Dd. -/
import Derived.Test.YtdneakejlbabeaaGreatM00
import Derived.Test.YtdneakejlbabeaaGreatM02
import Derived.BigQuiet
import Derived.StillTailTactics
namespace Go.Proofs.YtdneakejlbabeaaGreat
open Go.RowKit
set_option linter.unusedVariables false
set_option linter.unusedSimpArgs false
section
theorem run_max2' (k k' : IntKind) (x y : Int) : Builtin.max2 (.int k x) (.int k' y) = pure (.int k (mx x y)) := run_max2 k k' x y
theorem run_min2' (k k' : IntKind) (x y : Int) : Builtin.min2 (.int k x) (.int k' y) = pure (.int k (mn x y)) := run_min2 k k' x y
attribute [local go_sem] run_max2' run_min2' run_max_ run_min_
/-- From w to w' only blocks of S, or new ones, were written; what was S is S', which took new blocks alone. -/
structure Mv (S S' : Nat → Prop) (w w' : World) : Prop where
 f : Frm S w w'
 s : ∀ j, S' j → S j ∨ w.heap.size ≤ j
theorem Mv.refl (S : Nat → Prop) (w : World) : Mv S S w w := ⟨Frm.refl _ _, fun _ h => .inl h⟩
theorem Mv.trans {S S' S'' : Nat → Prop} {a b c : World} (h : Mv S S' a b) (k : Mv S' S'' b c) : Mv S S'' a c := by
 refine ⟨⟨k.f.os.trans h.f.os, k.f.tape.trans h.f.tape, k.f.output.trans h.f.output, Nat.le_trans h.f.size k.f.size, fun j hj hS => ?_⟩, fun j hj => ?_⟩
 ·rw [k.f.block j (Nat.lt_of_lt_of_le hj h.f.size) (fun h' => by rcases h.s j h' with h1 | h1; exact hS h1; omega)]
  exact h.f.block j hj hS
 ·rcases k.s j hj with h1 | h1
  ·exact h.s j h1
  ·exact .inr (Nat.le_trans h.f.size h1)
theorem Mv.mono {S T S' : Nat → Prop} {w w' : World} (h : Mv S S' w w') (hT : ∀ j, S j → T j) : Mv T S' w w' := ⟨h.f.mono hT, fun j hj => (h.s j hj).imp (hT j) id⟩
theorem Mv.below {S S' : Nat → Prop} {B : Nat} {a w w' : World} (h : Below B a w) (k : Mv S S' w w') (hB : B ≤ w.heap.size) (hS : ∀ i, S i → B ≤ i) : Below B a w' := Frm.below h k.f hB hS
/-- A guess. -/
def GOk (w : World) (g : Nat) : Prop := ∃ (a b c d : Int) (s : Bool), Blk w g #[.int .i64 a, .int .i64 b, .int .i64 c, .int .i64 d, .bool s] 165 ∧ 0 ≤ d ∧ d ≤ 6 ∧ 0 ≤ b ∧ b ≤ 1048576
def WOk (w : World) (g : Nat) : Prop := ∃ (a b c d : Int), Blk w g #[.int .i64 a, .int .i64 b, .int .i64 c, .int .i64 d] 176
def CkOk (w : World) (g : Nat) : Prop := ∃ (a b : Int), Blk w g #[.int .i64 a, .int .i64 b] 156
theorem GOk.frm {S : Nat → Prop} {w w' : World} {g : Nat} (h : GOk w g) (k : Frm S w w') (hn : ¬ S g) : GOk w' g := by
 obtain ⟨a, b, c, d, s, h1, h2⟩ := h
 exact ⟨a, b, c, d, s, h1.frm k hn, h2⟩
theorem WOk.frm {S : Nat → Prop} {w w' : World} {g : Nat} (h : WOk w g) (k : Frm S w w') (hn : ¬ S g) : WOk w' g := by
 obtain ⟨a, b, c, d, h1⟩ := h
 exact ⟨a, b, c, d, h1.frm k hn⟩
theorem CkOk.frm {S : Nat → Prop} {w w' : World} {g : Nat} (h : CkOk w g) (k : Frm S w w') (hn : ¬ S g) : CkOk w' g := by
 obtain ⟨a, b, h1⟩ := h
 exact ⟨a, b, h1.frm k hn⟩
theorem GOk.lt {w : World} {g : Nat} (h : GOk w g) : g < w.heap.size := by obtain ⟨a, b, c, d, s, h1, h2⟩ := h; exact h1.lt
theorem WOk.lt {w : World} {g : Nat} (h : WOk w g) : g < w.heap.size := by obtain ⟨a, b, c, d, h1⟩ := h; exact h1.lt
theorem CkOk.lt {w : World} {g : Nat} (h : CkOk w g) : g < w.heap.size := by obtain ⟨a, b, h1⟩ := h; exact h1.lt
section
variable {w : World} {g : Nat} {x : Int} {b : Bool}
theorem GOk.s0 (h : GOk w g) : GOk (w.setCell ⟨g, 0, none⟩ (.int .i64 x)) g := by obtain ⟨_, b, c, d, s, h1, h2⟩ := h; exact ⟨x, b, c, d, s, by simpa using h1.set 0 (.int .i64 x), h2⟩
theorem GOk.s1 (h : GOk w g) (h0 : 0 ≤ x ∧ x ≤ 1048576) : GOk (w.setCell ⟨g, 1, none⟩ (.int .i64 x)) g := by obtain ⟨a, _, c, d, s, h1, h2⟩ := h; exact ⟨a, x, c, d, s, by simpa using h1.set 1 (.int .i64 x), h2.1, h2.2.1, h0.1, h0.2⟩
theorem GOk.s2 (h : GOk w g) : GOk (w.setCell ⟨g, 2, none⟩ (.int .i64 x)) g := by obtain ⟨a, b, _, d, s, h1, h2⟩ := h; exact ⟨a, b, x, d, s, by simpa using h1.set 2 (.int .i64 x), h2⟩
theorem GOk.s3 (h : GOk w g) (h0 : 0 ≤ x ∧ x ≤ 6) : GOk (w.setCell ⟨g, 3, none⟩ (.int .i64 x)) g := by obtain ⟨a, b, c, _, s, h1, h2⟩ := h; exact ⟨a, b, c, x, s, by simpa using h1.set 3 (.int .i64 x), h0.1, h0.2, h2.2.2⟩
theorem GOk.s4 (h : GOk w g) : GOk (w.setCell ⟨g, 4, none⟩ (.bool b)) g := by obtain ⟨a, b', c, d, _, h1, h2⟩ := h; exact ⟨a, b', c, d, b, by simpa using h1.set 4 (.bool b), h2⟩
theorem WOk.s0 (h : WOk w g) : WOk (w.setCell ⟨g, 0, none⟩ (.int .i64 x)) g := by obtain ⟨_, b, c, d, h1⟩ := h; exact ⟨x, b, c, d, by simpa using h1.set 0 (.int .i64 x)⟩
theorem WOk.s1 (h : WOk w g) : WOk (w.setCell ⟨g, 1, none⟩ (.int .i64 x)) g := by obtain ⟨a, _, c, d, h1⟩ := h; exact ⟨a, x, c, d, by simpa using h1.set 1 (.int .i64 x)⟩
theorem WOk.s2 (h : WOk w g) : WOk (w.setCell ⟨g, 2, none⟩ (.int .i64 x)) g := by obtain ⟨a, b, _, d, h1⟩ := h; exact ⟨a, b, x, d, by simpa using h1.set 2 (.int .i64 x)⟩
theorem WOk.s3 (h : WOk w g) : WOk (w.setCell ⟨g, 3, none⟩ (.int .i64 x)) g := by obtain ⟨a, b, c, _, h1⟩ := h; exact ⟨a, b, c, x, by simpa using h1.set 3 (.int .i64 x)⟩
end
theorem clamp_any (n l m : Int) (w : World) : Calls Tryz.prog 82 #[.int .i64 n, .int .i64 l, .int .i64 m] w fun e w' => e = .returned (.int .i64 (mn (mx n l) m)) ∧ w = w' := by
 go_enter Tryz.func82, Tryz.ntmps82
 go_wp2
 go_ret
 exact ⟨rfl, rfl⟩
theorem between_any (n a b : Int) (w : World) : Calls Tryz.prog 116 #[.int .i64 n, .int .i64 a, .int .i64 b] w fun e w' => e = .returned (.bool (decide (a ≤ n ∧ n ≤ b))) ∧ w = w' := by
 by_cases h1 : a ≤ n
 ·by_cases h2 : n ≤ b
  ·rw [decide_eq_true (show a ≤ n ∧ n ≤ b from ⟨h1, h2⟩)]
   go_enter Tryz.func116, Tryz.ntmps116
   go_wp2
   go_ret
   exact ⟨rfl, rfl⟩
  ·rw [decide_eq_false (show ¬ (a ≤ n ∧ n ≤ b) from fun h => h2 h.2)]
   go_enter Tryz.func116, Tryz.ntmps116
   go_wp2
   go_ret
   exact ⟨rfl, rfl⟩
 ·rw [decide_eq_false (show ¬ (a ≤ n ∧ n ≤ b) from fun h => h1 h.1)]
  go_enter Tryz.func116, Tryz.ntmps116
  go_wp2
  go_ret
  exact ⟨rfl, rfl⟩
theorem newguess_any (n : Int) (w : World) : Calls Tryz.prog 83 #[.int .i64 n] w fun e w' => ∃ g, e = .returned (.pointer (some ⟨g, 0, none⟩)) ∧ w.heap.size ≤ g ∧ GOk w' g ∧ Below w.heap.size w w' := by
 go_enter Tryz.func83, Tryz.ntmps83
 go_wp2_with fail
 refine (clamp_any _ _ _ _).mono ?_
 rintro e _ ⟨rfl, rfl⟩
 obtain ⟨z, hz⟩ := lx (mn (mx n 1) 64)
 rw [← hz]
 clear hz
 go_wp2_with fail
 go_ret
 exact ⟨_, rfl, Nat.le_refl _, ⟨_, _, _, _, _, Blk.new _ _ _, by omega, by omega, by omega, by omega⟩, ba⟩
theorem newwindow_any (n : Int) (w : World) : Calls Tryz.prog 84 #[.int .i64 n] w fun e w' => ∃ g, e = .returned (.pointer (some ⟨g, 0, none⟩)) ∧ w.heap.size ≤ g ∧ WOk w' g ∧ Below w.heap.size w w' := by
 go_enter Tryz.func84, Tryz.ntmps84
 go_wp2_with fail
 refine (clamp_any _ _ _ _).mono ?_
 rintro e _ ⟨rfl, rfl⟩
 obtain ⟨z, hz⟩ := lx (mn (mx n 1) 16)
 rw [← hz]
 clear hz
 go_wp2_with fail
 go_ret
 exact ⟨_, rfl, Nat.le_refl _, ⟨_, _, _, _, Blk.new _ _ _⟩, ba⟩
theorem newsched_any (n : Int) (w : World) : Calls Tryz.prog 56 #[.int .i64 n] w fun e w' => ∃ g, e = .returned (.pointer (some ⟨g, 0, none⟩)) ∧ w.heap.size ≤ g ∧ CkOk w' g ∧ Below w.heap.size w w' := by
 go_enter Tryz.func56, Tryz.ntmps56
 go_wp2_with fail
 go_ret
 exact ⟨_, rfl, Nat.le_refl _, ⟨_, _, Blk.new _ _ _⟩, ba⟩
set_option maxHeartbeats 2000000 in
theorem loss_any (g : Nat) (w : World) (h : WOk w g) : Calls Tryz.prog 89 #[.pointer (some ⟨g, 0, none⟩)] w fun e w' => e = .returned (.tuple #[]) ∧ WOk w' g ∧ Frm (· = g) w w' := by
 have H := hid h
 obtain ⟨m, s, t, c, hb⟩ := h
 have c1 := hb.cell 1
 have c2 := hb.cell 2
 have c3 := hb.cell 3
 have f1 := hb.free 1
 have f2 := hb.free 2
 have f3 := hb.free 3
 simp at c1 c2 c3
 clear hb
 go_enter Tryz.func89, Tryz.ntmps89
 go_wp2
 all_goals
  first
   | go_end0
   | refine bodyPost_ret (results_none rfl _ _ _) rfl ?_
  exact ⟨rfl, by repeat (first | with_reducible exact H.out | with_reducible apply WOk.s1 | with_reducible apply WOk.s2 | with_reducible apply WOk.s3), by repeat (first | with_reducible exact Frm.refl _ _ | with_reducible apply Frm.setg)⟩
set_option maxHeartbeats 2000000 in
theorem glate_any (g : Nat) (w : World) (h : GOk w g) : Calls Tryz.prog 88 #[.pointer (some ⟨g, 0, none⟩)] w fun e w' => e = .returned (.tuple #[]) ∧ GOk w' g ∧ Frm (· = g) w w' := by
 have H := hid h
 obtain ⟨a, b, c, d, s, hb, hd0, hd1, hm0, hm1⟩ := h
 have c3 := hb.cell 3
 have f3 := hb.free 3
 simp at c3
 clear hb
 have iw : IntKind.i64.wrap (d + 1) = d + 1 := iX
 go_enter Tryz.func88, Tryz.ntmps88
 go_wp2
 go_end0
 exact ⟨rfl, H.out.s3 (by unfold mn; split <;> omega), (Frm.refl _ _).setg _⟩
end

section
/-- New bytes. -/
def BO (B : Nat) (w : World) (v : Value) (l : List Int) : Prop := w.ownsRow B 5 1 v l.length (u8s l) ∧ Byt l
theorem BO.bv {B : Nat} {w : World} {v : Value} {l : List Int} (h : BO B w v l) : BV w (fun j => B ≤ j) v l := by
 obtain ⟨A, c, rfl, _⟩ := (Sl.of_own h.1 (u8s_one l)).len
 exact ⟨A, c, rfl, Sl.of_own h.1 (u8s_one l), fun h0 j hj => h.1.lt j hj, h.2⟩
theorem BV.sl {w : World} {S : Nat → Prop} {v : Value} {l : List Int} (h : BV w S v l) : Sl w 1 v l.length (u8s l) := by
 obtain ⟨A, c, _, h1, _⟩ := h
 exact h1
theorem BV.byt {w : World} {S : Nat → Prop} {v : Value} {l : List Int} (h : BV w S v l) : Byt l := by
 obtain ⟨A, c, _, _, _, h1⟩ := h
 exact h1
theorem copyb_any (w : World) (v : Value) (n : Nat) (xs : List Value) (h : Sl w 1 v n xs) (hn : n ≤ 140737488355328) :
  Calls Tryz.prog 22 #[v] w fun e w' => ∃ v', e = .returned v' ∧ w'.ownsRow w.heap.size 5 1 v' n xs ∧ Below w.heap.size w w' := by
 have H := hid h
 have HI := hid Tryz.info5
 clear h
 go_enter Tryz.func22, Tryz.ntmps22
 go_wp2_with (at_builtin; refine wp_app w.heap.size rfl _ _ 25 5 (.int .u8 0) 1 1 rfl Tryz.underlying25 HI.out rfl (by omega) (by omega) rfl rfl (World.ownsRow_nil _ _ _ _) H.out (by omega) (Nat.le_refl _) ?_; intro v1 w1 hown hfr hat)
 simp only [Nat.zero_add, List.nil_append] at hown
 have HO := hid hown
 have HB : Hid (Below w.heap.size w w1) := Frm.below (Below.refl _ _) hfr (Nat.le_refl _) (fun g hg => by cases hg)
 clear hown hfr hat
 go_wp2_with fail
 go_ret
 exact ⟨_, rfl, HO.out, HB.out⟩
theorem cutb_any (w : World) (v : Value) (n : Nat) (xs : List Value) (m : Nat) (h : Sl w 1 v n xs) (hm : m ≤ 1000000) :
  Calls Tryz.prog 23 #[v, .int .i64 m] w fun e w' => ∃ v', e = .returned v' ∧ w'.ownsRow w.heap.size 5 1 v' (min n m) (xs.take m) ∧ Below w.heap.size w w' := by
 obtain ⟨A, c, rfl, h1, h2⟩ := h.len
 have H := hid h
 unfold maxLen at h2
 have hl : xs.length = n := by
  obtain ⟨_, _, _, _, _, h, _⟩ := h
  simpa using h
 by_cases hmn : m < n
 ·rw [show min n m = m from by omega]
  have HS := hid (H.out.take (Nat.le_of_lt hmn))
  clear h hl
  go_enter Tryz.func23, Tryz.ntmps23
  go_wp2_with fail
  refine (copyb_any _ _ _ _ HS.out (by omega)).mono ?_
  rintro e w1 ⟨v', rfl, ho, hb⟩
  have HO := hid ho
  have HB := hid hb
  clear ho hb
  go_wp2_with fail
  go_ret
  exact ⟨_, rfl, HO.out, HB.out⟩
 ·rw [show min n m = n from by omega, List.take_of_length_le (by omega)]
  clear h hl
  have hn : n ≤ 1000000 := by omega
  go_enter Tryz.func23, Tryz.ntmps23
  go_wp2_with fail
  refine (copyb_any _ _ _ _ H.out (by omega)).mono ?_
  rintro e w1 ⟨v', rfl, ho, hb⟩
  have HO := hid ho
  have HB := hid hb
  clear ho hb
  go_wp2_with fail
  go_ret
  exact ⟨_, rfl, HO.out, HB.out⟩
/-! ### The sum, digit by digit -/
def crcBit (s : Nat) : Nat := if s % 2 = 1 then (s / 2) ^^^ 3988292384 else s / 2
def crcIt : Nat → Nat → Nat
 | 0, s => s
 | k + 1, s => crcBit (crcIt k s)
def crcUp (s : Nat) (l : List Int) : Nat := l.foldl (fun s x => crcIt 8 (s ^^^ x.toNat)) s
def crcL (l : List Int) : Nat := crcUp 4294967295 l ^^^ 4294967295
theorem crcBit_lt {s : Nat} (h : s < 4294967296) : crcBit s < 4294967296 := by
 unfold crcBit
 split
 ·exact Nat.xor_lt_two_pow (n := 32) (by omega) (by omega)
 ·omega
theorem crcIt_lt {s : Nat} (h : s < 4294967296) : ∀ k, crcIt k s < 4294967296
 | 0 => h
 | k + 1 => crcBit_lt (crcIt_lt h k)
theorem crcUp_snoc (s : Nat) (l : List Int) (x : Int) : crcUp s (l ++ [x]) = crcIt 8 (crcUp s l ^^^ x.toNat) := by simp [crcUp]
theorem crcUp_lt : ∀ {l : List Int} {s : Nat}, s < 4294967296 → Byt l → crcUp s l < 4294967296
 | [], s, h, _ => h
 | x :: l, s, h, hb => by
  have hx := hb x (by simp)
  have e : crcUp s (x :: l) = crcUp (crcIt 8 (s ^^^ x.toNat)) l := rfl
  rw [e]
  exact crcUp_lt (crcIt_lt (Nat.xor_lt_two_pow (n := 32) h (by omega)) 8) (fun y hy => hb y (by simp [hy]))
theorem u8s_at (l : List Int) (k : Nat) (h : k < l.length) : (u8s l).getD k undef = .int .u8 l[k] := by
 unfold u8s
 rw [List.getD_eq_getElem?_getD, List.getElem?_map, List.getElem?_eq_getElem h]
 rfl
set_option maxHeartbeats 4000000 in
set_option maxRecDepth 100000 in
theorem sum_any (w : World) (S : Nat → Prop) (v : Value) (l : List Int) (h : BV w S v l) : Calls Tryz.prog 112 #[v] w fun e w' => e = .returned (.int .u32 (crcL l : Nat)) ∧ w = w' := by
 obtain ⟨A, c, rfl, h1, _, hby⟩ := h
 have H := hid h1
 have HB := hid hby
 have hn : l.length ≤ 9223372036854775807 := by
  obtain ⟨A', c', _, h2, h3, _⟩ := h1
  unfold maxLen at h3
  omega
 clear h1 hby
 go_enter Tryz.func112, Tryz.ntmps112
 go_wp2_with fail
 go_loop [3, 9] (fun s i => ∃ k : Nat, k ≤ l.length ∧ i = .int .i64 k ∧ s = .int .u32 (crcUp 4294967295 (l.take k) : Nat)) (fun _ i => l.length - (intOf i).toNat)
 case atStart => exact ⟨0, Nat.zero_le _, rfl, rfl⟩
 case round =>
  obtain ⟨k, hk, rfl, rfl⟩ := hrel
  obtain ⟨y, hy⟩ := lx (crcUp 4294967295 (l.take k))
  have hy2 : y < 4294967296 := hy ▸ crcUp_lt (by omega) (fun x hx => HB.out x (List.mem_of_mem_take hx))
  rw [← hy]
  have HY := hid hy
  clear hy
  by_cases hkl : k < l.length
  ·have iwk : IntKind.i64.wrap ((k : Int) + 1) = (k : Int) + 1 := iX
   have k0 : (0 : Int) ≤ (k : Int) := by omega
   have k1 : (k : Int) < (l.length : Int) := by omega
   obtain ⟨ad, rfl, hc⟩ := H.out.at_ hkl
   rw [u8s_at l k hkl] at hc
   obtain ⟨x, hx⟩ : ∃ x : Nat, (x : Int) = l[k] := ⟨l[k].toNat, Int.toNat_of_nonneg (HB.out _ (List.getElem_mem hkl)).1⟩
   have hx2 : x < 256 := by have := (HB.out _ (List.getElem_mem hkl)).2; omega
   rw [← hx] at hc
   have hs : crcUp 4294967295 (l.take (k + 1)) = crcIt 8 (y ^^^ x) := by
    rw [List.take_add_one, List.getElem?_eq_getElem hkl]
    simp only [Option.toList_some]
    rw [crcUp_snoc, ← HY.out, ← hx]
    rfl
   have HS := hid hs
   have hb1 : bits BinOp.xor IntKind.u32 (y : Int) (x : Int) = ((y ^^^ x : Nat) : Int) := bits_xor_u32 y x hy2 (by omega)
   have hz2 : (y ^^^ x) < 4294967296 := Nat.xor_lt_two_pow (n := 32) (by omega) (by omega)
   obtain ⟨z, hz⟩ : ∃ z, y ^^^ x = z := ⟨_, rfl⟩
   rw [hz] at hb1 hz2 HS
   clear hs hz hx HY
   go_wp2_with fail
   go_loop [3, 6] (fun s i => ∃ j : Nat, j ≤ 8 ∧ i = .int .i64 j ∧ s = .int .u32 (crcIt j z : Nat)) (fun _ i => 8 - (intOf i).toNat)
   case atStart => exact ⟨0, by omega, rfl, rfl⟩
   case round =>
    obtain ⟨j, hj, rfl, rfl⟩ := hrel
    have iwj : IntKind.i64.wrap ((j : Int) + 1) = (j : Int) + 1 := iX
    have ht2 := crcIt_lt hz2 j
    have HT : Hid (crcIt (j + 1) z = crcBit (crcIt j z)) := hid rfl
    obtain ⟨t, ht⟩ : ∃ t, crcIt j z = t := ⟨_, rfl⟩
    rw [ht] at ht2 HT ⊢
    by_cases hj8 : j < 8
    ·have j1 : (j : Int) < 8 := by omega
     by_cases hp : t % 2 = 1
     ·have hpi : ((t : Int) % 2 == 1) = true := by rw [beq_iff_eq]; omega
      have hb2 : bits BinOp.xor IntKind.u32 ((t : Int) / 2) 3988292384 = ((t / 2 ^^^ 3988292384 : Nat) : Int) := bits_xor_u32 (t / 2) 3988292384 (by omega) (by omega)
      have hcb : crcBit t = (t / 2) ^^^ 3988292384 := by unfold crcBit; rw [if_pos hp]
      go_wp2_with fail
      go_round
      case rel => exact ⟨j + 1, by omega, by go_num, by rw [HT.out, hcb]⟩
      case measure => simp [intOf]; omega
     ·have hpi : ((t : Int) % 2 == 1) = false := by
       rw [beq_eq_false_iff_ne]
       omega
      have hcb : crcBit t = t / 2 := by unfold crcBit; rw [if_neg hp]
      go_wp2_with fail
      go_round
      case rel => exact ⟨j + 1, by omega, by go_num, by rw [HT.out, hcb]; simp⟩
      case measure => simp [intOf]; omega
    ·have j1 : ¬ (j : Int) < 8 := by omega
     obtain rfl : j = 8 := by omega
     rw [← ht]
     clear HT ht2 ht
     go_wp2_with fail
     go_round
     case rel => exact ⟨k + 1, by omega, by go_num, by rw [HS.out]⟩
     case measure => simp [intOf]; omega
  ·have k1 : ¬ (k : Int) < (l.length : Int) := by omega
   obtain rfl : k = l.length := by omega
   have hb3 : bits BinOp.xor IntKind.u32 IntKind.u32.max (y : Int) = ((crcL l : Nat) : Int) := by
    have := bits_xor_u32 4294967295 y (by omega) hy2
    rw [show IntKind.u32.max = ((4294967295 : Nat) : Int) from by decide, this, Nat.xor_comm, HY.out, List.take_length]
    rfl
   go_wp2_with fail
   go_ret
   exact ⟨rfl, rfl⟩
/-- A seal's four bytes. -/
def sealL (l : List Int) : List Int := l ++ [((crcL l : Nat) : Int) % 256, ((crcL l : Nat) : Int) / 256 % 256, ((crcL l : Nat) : Int) / 65536 % 256, ((crcL l : Nat) : Int) / 16777216]
theorem crcL_lt {l : List Int} (h : Byt l) : crcL l < 4294967296 := Nat.xor_lt_two_pow (n := 32) (crcUp_lt (by omega) h) (by omega)
theorem sealL_byt {l : List Int} (h : Byt l) : Byt (sealL l) := by
 have := crcL_lt h
 intro x hx
 unfold sealL at hx
 simp only [List.mem_append, List.mem_cons, List.not_mem_nil, or_false] at hx
 rcases hx with hx | rfl | rfl | rfl | rfl
 ·exact h x hx
 ·omega
 ·omega
 ·omega
 ·omega
theorem sealL_len (l : List Int) : (sealL l).length = l.length + 4 := by simp [sealL]
set_option maxHeartbeats 4000000 in
set_option maxRecDepth 100000 in
theorem seal_any (w : World) (S : Nat → Prop) (v : Value) (l : List Int) (h : BV w S v l) (hl : l.length ≤ 100000000) : Calls Tryz.prog 97 #[v] w fun e w' => ∃ v', e = .returned v' ∧ BO w.heap.size w' v' (sealL l) ∧ Below w.heap.size w w' := by
 obtain ⟨A, c, e0, h1, _, hby⟩ := id h
 have H := hid h
 have HS := hid h1
 have HI := hid Tryz.info5
 subst e0
 clear h h1 hby
 go_enter Tryz.func97, Tryz.ntmps97
 go_wp2_with fail
 refine (sum_any w S _ l H.out).mono ?_
 rintro e _ ⟨rfl, rfl⟩
 obtain ⟨s, hs⟩ : ∃ s, crcL l = s := ⟨_, rfl⟩
 rw [hs]
 have hs2 : s < 4294967296 := by
  rw [← hs]
  exact Nat.xor_lt_two_pow (n := 32) (crcUp_lt (by omega) H.out.byt) (by omega)
 have HE := hid hs
 clear hs
 go_wp2_with (first
  | (at_builtin; refine wp_app w.heap.size rfl _ _ 25 5 (.int .u8 0) 1 1 rfl Tryz.underlying25 HI.out rfl (by omega) (by omega) rfl rfl (World.ownsRow_nil _ _ _ _) HS.out (by omega) (Nat.le_refl _) ?_; intro v1 w1 hown hfr hat; simp only [Nat.zero_add, List.nil_append] at hown; have HO := hid hown; have HB1 : Hid (Below w.heap.size w w1) := hid (Frm.below (Below.refl _ _) hfr (Nat.le_refl _) (fun g hg => by cases hg)); obtain ⟨A1, c1, rfl⟩ := own_slice' hown; clear hown hfr hat)
  | (at_builtin; refine wp_app w.heap.size rfl _ _ 25 5 (.int .u8 0) 1 1 rfl Tryz.underlying25 HI.out rfl (by omega) (by omega) rfl rfl (HO.out.alloc _) (Sl.box w1 5 _ 4 rfl (by simp [maxLen]) (by simp [Value.oneCell'])) (by omega) (Nat.le_trans HB1.out.size (by simp)) ?_; intro v2 w2 hown hfr hat))
 go_ret
 refine ⟨_, rfl, ⟨?_, sealL_byt H.out.byt⟩, Frm.below (HB1.out.alloc HB1.out.size _) hfr (Nat.le_trans HB1.out.size (by simp)) (fun g hg => (HO.out.lt g hg).1)⟩
 rw [sealL_len]
 unfold sealL
 rw [u8s_append, HE.out]
 exact hown
end

section
attribute [local go_sem] run_max2' run_min2' run_max_ run_min_
theorem Tryz.info171 : (Tryz.prog.info? 171).map (fun i => (i.zero, i.size, i.bytes)) = some (some (.agg #[.int .i64 0, .int .i64 0]), 2, 16) := by kernel_rfl
/-- The cells of ranges. -/
def rcs : List (Int × Int) → List Value
 | [] => []
 | r :: rs => .int .i64 r.1 :: .int .i64 r.2 :: rcs rs
theorem rcs_len : ∀ rs, (rcs rs).length = rs.length * 2
 | [] => rfl
 | r :: rs => by simp only [rcs, List.length_cons, rcs_len rs]; omega
theorem rcs_app : ∀ rs ss, rcs (rs ++ ss) = rcs rs ++ rcs ss
 | [], ss => rfl
 | r :: rs, ss => by simp [rcs, rcs_app rs ss]
theorem rcs_one : ∀ rs, ∀ u ∈ rcs rs, u.oneCell' = true
 | [], u, h => by cases h
 | r :: rs, u, h => by
  simp only [rcs, List.mem_cons] at h
  rcases h with rfl | rfl | h
  ·rfl
  ·rfl
  ·exact rcs_one rs u h
theorem rcs_at : ∀ (rs : List (Int × Int)) (i : Nat) (h : i < rs.length), (rcs rs)[i * 2]? = some (.int .i64 rs[i].1) ∧ (rcs rs)[i * 2 + 1]? = some (.int .i64 rs[i].2)
 | [], i, h => by simp at h
 | r :: rs, 0, h => ⟨rfl, rfl⟩
 | r :: rs, i + 1, h => by
  have := rcs_at rs i (by simpa using h)
  rw [show (i + 1) * 2 = i * 2 + 1 + 1 by omega]
  simpa [rcs] using this
abbrev RR (w : World) (v : Value) (rs : List (Int × Int)) : Prop := Sl w 2 v rs.length (rcs rs)
abbrev OR (B : Nat) (w : World) (v : Value) (rs : List (Int × Int)) : Prop := w.ownsRow B 171 2 v rs.length (rcs rs)
theorem OR.rr {B : Nat} {w : World} {v : Value} {rs : List (Int × Int)} (h : OR B w v rs) : RR w v rs := Sl.of_own h (rcs_one rs)
theorem RR.at_ {w : World} {A : Option Addr} {n c : Nat} {rs : List (Int × Int)} (h : RR w (.slice A n c) rs) {i : Nat} (hi : i < rs.length) : ∃ ad, A = some ad ∧ w.cell? (ad.add (i * 2)) = some (.int .i64 rs[i].1) ∧ w.cell? ⟨(ad.add (i * 2)).block, (ad.add (i * 2)).off + 1, none⟩ = some (.int .i64 rs[i].2) := by
 obtain ⟨A', c', e, _, _, h6, _, h5⟩ := h
 injection e with e1 e2 e3
 subst e1
 obtain ⟨ad, rfl, hc⟩ := h5 (by rw [rcs_len]; omega)
 obtain ⟨r1, r2⟩ := rcs_at rs i hi
 refine ⟨ad, rfl, hc _ _ r1, ?_⟩
 have := hc _ _ r2
 rw [← addr_add, addr_pos _ _ (by omega)] at this
 exact this
theorem OR.push {B : Nat} {w : World} {v : Value} {rs : List (Int × Int)} {a b : Int} (h : w.ownsRow B 171 2 v (rs.length + 1) (rcs rs ++ [.int .i64 a, .int .i64 b])) : OR B w v (rs ++ [(a, b)]) := by
 show w.ownsRow B 171 2 v (rs ++ [(a, b)]).length (rcs (rs ++ [(a, b)]))
 rw [rcs_app, List.length_append]
 exact h
theorem below_drewN {B : Nat} {a w : World} (h : Below B a w) (n : Nat) : Below B a (w.drewN n) := ⟨h.os, h.tape, h.output, h.size, h.block⟩
theorem results_three {fn : Func} {t u v : Tmp} (h : fn.results = #[.tmp t, .tmp u, .tmp v]) (tmps : Array Value) (P : Program) (w : World) :
  (results fn tmps).run P w = .ok (.tuple #[tmps.getD t undef, tmps.getD u undef, tmps.getD v undef]) w := by
 simp [results, h]
theorem clip_any (a b : Int) (w : World) : Calls Tryz.prog 117 #[.int .i64 a, .int .i64 b] w fun e w' => e = .returned (.tuple #[.int .i64 (mx a 0), .int .i64 (mn b 1099511627776), .bool (decide (mx a 0 < mn b 1099511627776))]) ∧ w = w' := by
 obtain ⟨x, hx⟩ : ∃ x, mx a 0 = x := ⟨_, rfl⟩
 obtain ⟨y, hy⟩ : ∃ y, mn b 1099511627776 = y := ⟨_, rfl⟩
 rw [hx, hy]
 by_cases h : x < y
 ·rw [decide_eq_true h]
  go_enter Tryz.func117, Tryz.ntmps117
  go_wp2
  refine bodyPost_ret (results_three rfl _ _ _) rfl ?_
  exact ⟨rfl, rfl⟩
 ·rw [decide_eq_false h]
  go_enter Tryz.func117, Tryz.ntmps117
  go_wp2
  refine bodyPost_ret (results_three rfl _ _ _) rfl ?_
  exact ⟨rfl, rfl⟩
def hasL (f t : Int) (rs : List (Int × Int)) : Bool := decide (t ≤ f) || rs.any fun r => decide (r.1 ≤ f) && decide (t ≤ r.2)
set_option maxHeartbeats 4000000 in
set_option maxRecDepth 100000 in
theorem has_any (w : World) (gs k : Nat) (v : Value) (rs : List (Int × Int)) (f t : Int) (hc : w.cell? ⟨gs, k, none⟩ = some v) (hr : RR w v rs) :
  Calls Tryz.prog 103 #[.pointer (some ⟨gs, k, none⟩), .int .i64 f, .int .i64 t] w fun e w' => e = .returned (.bool (hasL f t rs)) ∧ Below w.heap.size w w' := by
 obtain ⟨A, c, rfl, _, hm⟩ := hr.len
 have H := hid hr
 have hn : rs.length ≤ 9223372036854775807 := by unfold maxLen at hm; omega
 clear hr
 by_cases h0 : t ≤ f
 ·have e : hasL f t rs = true := by unfold hasL; rw [decide_eq_true h0]; rfl
  rw [e]
  go_enter Tryz.func103, Tryz.ntmps103
  go_wp2_with fail
  go_ret
  exact ⟨rfl, Below.refl _ _⟩
 ·have e : hasL f t rs = rs.any fun r => decide (r.1 ≤ f) && decide (t ≤ r.2) := by unfold hasL; rw [decide_eq_false h0]; rfl
  rw [e]
  clear e
  obtain ⟨q, hq⟩ : ∃ q, (rs.any fun r => decide (r.1 ≤ f) && decide (t ≤ r.2)) = q := ⟨_, rfl⟩
  rw [hq]
  have HQ := hid hq
  clear hq
  go_enter Tryz.func103, Tryz.ntmps103
  go_wp2_with fail
  go_loopw [17] (fun i wr => ∃ j : Nat, j ≤ rs.length ∧ i = .int .i64 j ∧ ((rs.take j).any fun r => decide (r.1 ≤ f) && decide (t ≤ r.2)) = false ∧ Below w.heap.size w wr) (fun i _ => rs.length - (intOf i).toNat)
  case atStart => exact ⟨0, Nat.zero_le _, rfl, rfl, Below.refl _ _⟩
  case round =>
   obtain ⟨j, hj, rfl, hany, hb⟩ := hrel
   have HA := hid hany
   have BR := hid hb
   clear hany hb
   by_cases hjl : j < rs.length
   ·have j0 : (0 : Int) ≤ (j : Int) := by omega
    have j1 : (j : Int) < (rs.length : Int) := by omega
    have iwj : IntKind.i64.wrap ((j : Int) + 1) = (j : Int) + 1 := iX
    obtain ⟨ad, rfl, c0, c1⟩ := RR.at_ (H.out.below BR.out) hjl
    have HT : Hid (rs.take (j + 1) = rs.take j ++ [rs[j]]) := hid (by rw [List.take_add_one, List.getElem?_eq_getElem hjl]; rfl)
    have HM : Hid (rs[j] ∈ rs) := hid (List.getElem_mem hjl)
    obtain ⟨r, hr⟩ : ∃ r, rs[j] = r := ⟨_, rfl⟩
    rw [hr] at c0 c1 HT HM
    obtain ⟨a, b⟩ := r
    simp only at c0 c1
    clear hr
    by_cases h1 : a ≤ f
    ·by_cases h2 : t ≤ b
     ·have e : (rs.any fun r => decide (r.1 ≤ f) && decide (t ≤ r.2)) = true := List.any_eq_true.2 ⟨(a, b), HM.out, by simp [h1, h2]⟩
      have e2 : q = true := by rw [← HQ.out]; exact e
      subst e2
      clear e
      go_wp2_with fail
      go_ret
      exact ⟨rfl, BR.out.alloc BR.out.size _⟩
     ·go_wp2_with fail
      go_roundw
      case rel => exact ⟨j + 1, hjl, by go_num, by rw [HT.out, List.any_append, HA.out]; simp [h2], BR.out.alloc BR.out.size _⟩
      case measure => simp [intOf]; omega
    ·go_wp2_with fail
     go_roundw
     case rel => exact ⟨j + 1, hjl, by go_num, by rw [HT.out, List.any_append, HA.out]; simp [h1], BR.out.alloc BR.out.size _⟩
     case measure => simp [intOf]; omega
   ·have j1 : ¬ (j : Int) < (rs.length : Int) := by omega
    obtain rfl : j = rs.length := by omega
    have e := HA.out
    rw [List.take_length, HQ.out] at e
    subst e
    go_wp2_with fail
    go_ret
    exact ⟨rfl, BR.out⟩
end
end Go.Proofs.YtdneakejlbabeaaGreat
