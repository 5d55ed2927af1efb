/- Parts of the walk: Dp, Ef, Ej. -/
import Derived.Test.YtdneakejlbabeaaGreatM00
import Derived.Test.YtdneakejlbabeaaGreatM12
import Derived.Deep.RegionLaw
import Derived.Laws.ResultCell
import Derived.Laws.Rows
import Derived.Test.YtdneakejlbabeaaGreatM15
import Derived.Test.YtdneakejlbabeaaGreatM04
namespace Go.Proofs.YtdneakejlbabeaaGreat
open Go.RowKit
set_option linter.unusedVariables false
set_option linter.unusedSimpArgs false
section
attribute [local go_sem] run_max2' run_min2' run_max_ run_min_
set_option maxHeartbeats 4000000 in
set_option maxRecDepth 100000 in
theorem sample_any (g : Nat) (n : Int) (w : World) (h : GOk w g) : Calls Tryz.prog 107 #[.pointer (some ⟨g, 0, none⟩), .int .i64 n] w fun e w' => e = .returned (.tuple #[]) ∧ GOk w' g ∧ Frm (· = g) w w' := by
 have H := hid h
 obtain ⟨a, b, c, d, s, hb, hd0, hd1, hm0, hm1⟩ := h
 have c1 := hb.cell 1
 have c2 := hb.cell 2
 have c4 := hb.cell 4
 have c3 := hb.cell 3
 have f1 := hb.free 1
 have f2 := hb.free 2
 have f3 := hb.free 3
 have f4 := hb.free 4
 simp at c1 c2 c3 c4
 clear hb hd0 hd1
 obtain ⟨z, hz⟩ : ∃ z, mn (mx n 0) 1048576 = z := ⟨_, rfl⟩
 have HZ := hid hz
 have zb : Hid (0 ≤ z ∧ z ≤ 1048576) := hid (by rw [← hz]; unfold mn mx; split <;> split <;> omega)
 clear hz
 cases s
 ·clear hm0 hm1
  obtain ⟨y, hy⟩ : ∃ y, IntKind.i64.wrap (z.tdiv 2) = y := ⟨_, rfl⟩
  go_enter Tryz.func107, Tryz.ntmps107
  go_wp2_with fail
  refine (clamp_any _ _ _ _).mono ?_
  rintro e _ ⟨rfl, rfl⟩
  rw [HZ.out]
  go_wp2_with fail
  refine bodyPost_ret (results_none rfl _ _ _) rfl ?_
  exact ⟨rfl, by repeat (first | with_reducible exact H.out | with_reducible refine GOk.s1 ?_ zb.out | with_reducible apply GOk.s2 | with_reducible apply GOk.s4 | with_reducible exact GOk.s3 H.out ⟨by omega, by omega⟩), by repeat (first | with_reducible exact Frm.refl _ _ | with_reducible apply Frm.setg)⟩
 ·obtain ⟨x, hx⟩ : ∃ x, IntKind.i64.wrap (b - z) = x := ⟨_, rfl⟩
  obtain ⟨nx, hnx⟩ : ∃ y, IntKind.i64.wrap (-x) = y := ⟨_, rfl⟩
  obtain ⟨k3, hk3⟩ : ∃ y, IntKind.i64.wrap (3 * c) = y := ⟨_, rfl⟩
  obtain ⟨k7, hk7⟩ : ∃ y, IntKind.i64.wrap (7 * b) = y := ⟨_, rfl⟩
  obtain ⟨m7, hm7⟩ : ∃ y, IntKind.i64.wrap (k7 + z) = y := ⟨_, rfl⟩
  obtain ⟨q7, hq7⟩ : ∃ y, IntKind.i64.wrap (m7.tdiv 8) = y := ⟨_, rfl⟩
  have qb : Hid (0 ≤ q7 ∧ q7 ≤ 1048576) := hid (by
   obtain ⟨z0, z1⟩ := zb.out
   have e7 : k7 = 7 * b := hk7.symm.trans (iX)
   have em : m7 = k7 + z := hm7.symm.trans (iX)
   have ed : m7.tdiv 8 = m7 / 8 := Int.tdiv_eq_ediv_of_nonneg (by omega)
   have eq : q7 = m7 / 8 := by rw [← hq7, ed]; exact iX
   omega)
  clear hm0 hm1
  by_cases hlt : x < 0
  ·obtain ⟨m3, hm3⟩ : ∃ y, IntKind.i64.wrap (k3 + nx) = y := ⟨_, rfl⟩
   obtain ⟨q3, hq3⟩ : ∃ y, IntKind.i64.wrap (m3.tdiv 4) = y := ⟨_, rfl⟩
   go_enter Tryz.func107, Tryz.ntmps107
   go_wp2_with fail
   refine (clamp_any _ _ _ _).mono ?_
   rintro e _ ⟨rfl, rfl⟩
   rw [HZ.out]
   go_wp2_with fail
   go_end0
   exact ⟨rfl, by repeat (first | with_reducible exact H.out | with_reducible refine GOk.s1 ?_ qb.out | with_reducible apply GOk.s2 | with_reducible apply GOk.s4 | with_reducible exact GOk.s3 H.out ⟨by omega, by omega⟩), by repeat (first | with_reducible exact Frm.refl _ _ | with_reducible apply Frm.setg)⟩
  ·obtain ⟨m3, hm3⟩ : ∃ y, IntKind.i64.wrap (k3 + x) = y := ⟨_, rfl⟩
   obtain ⟨q3, hq3⟩ : ∃ y, IntKind.i64.wrap (m3.tdiv 4) = y := ⟨_, rfl⟩
   go_enter Tryz.func107, Tryz.ntmps107
   go_wp2_with fail
   refine (clamp_any _ _ _ _).mono ?_
   rintro e _ ⟨rfl, rfl⟩
   rw [HZ.out]
   go_wp2_with fail
   go_end0
   exact ⟨rfl, by repeat (first | with_reducible exact H.out | with_reducible refine GOk.s1 ?_ qb.out | with_reducible apply GOk.s2 | with_reducible apply GOk.s4 | with_reducible exact GOk.s3 H.out ⟨by omega, by omega⟩), by repeat (first | with_reducible exact Frm.refl _ _ | with_reducible apply Frm.setg)⟩
end

section
attribute [local go_sem] run_max2' run_min2' run_max_ run_min_
section
variable {α : Type} {f : α → List Value} {k : Nat}
theorem rowc_take (hf : ∀ a, (f a).length = k) (l : List α) (i : Nat) (hi : i ≤ l.length) : (rowc f l).take (i * k) = rowc f (l.take i) := by
 have h := rowc_app (f := f) (l.take i) (l.drop i)
 rw [List.take_append_drop] at h
 rw [h]
 exact List.take_left' (by rw [rowc_len hf, List.length_take, Nat.min_eq_left hi])
theorem rowc_drop (hf : ∀ a, (f a).length = k) (l : List α) (i : Nat) (hi : i ≤ l.length) : (rowc f l).drop (i * k) = rowc f (l.drop i) := by
 have h := rowc_app (f := f) (l.take i) (l.drop i)
 rw [List.take_append_drop] at h
 rw [h]
 exact List.drop_left' (by rw [rowc_len hf, List.length_take, Nat.min_eq_left hi])
end
theorem results_crt {P : Program} {fn : Func} {p u : Tmp} {ty : TypeId} (h : fn.results = #[.cell p ty, .tmp u]) (tmps : Array Value) (w : World) (g : Nat) (t : TypeId) (cs : Array Value) (fr : Nat × Nat) (d : TypeDesc)
  (hp : tmps.getD p undef = .pointer (some ⟨g, 0, none⟩)) (hg : w.heap[g]? = some (.cells cs t fr))
  (hu : P.underlying ty = some d) (hd : (match d with | .struct _ | .array _ _ => true | _ => false) = true) (hi : (P.info? ty).map (·.size) = some cs.size) :
  (results fn tmps).run P w = .ok (.tuple #[.agg cs, tmps.getD u undef]) w := by
 have hp' : tmps[p]?.getD undef = .pointer (some ⟨g, 0, none⟩) := by simpa using hp
 simp [results_cell_tmp h, hp', asAddr, run_loadVar_row w g t ty cs fr d hg hu hd hi, Result.andThen]
theorem Tryz.size140 : (Tryz.prog.info? 140).map (·.size) = some 4 := by kernel_rfl
/-- A cell of a row was turned. -/
def CellSet (w w' : World) (g k : Nat) (v : Value) : Prop := ∀ cs t, Blk w g cs t → Blk w' g (cs.setIfInBounds k v) t
/-- What taking leaves. -/
def FTakeR (w : World) (g k : Nat) (l : List O4) (e : Ending) (w' : World) : Prop :=
 (∃ o : O4, e = .returned (.tuple #[.agg #[.int .i64 o.1, .int .i64 o.2.1, .int .i64 o.2.2.1, .int .i64 o.2.2.2], .bool false]) ∧ Below w.heap.size w w') ∨
 (∃ (o : O4) (v2 : Value) (l2 : List O4), (∀ x ∈ l2, x ∈ l) ∧ l2.length ≤ l.length ∧ e = .returned (.tuple #[.agg #[.int .i64 o.1, .int .i64 o.2.1, .int .i64 o.2.2.1, .int .i64 o.2.2.2], .bool true]) ∧ Frm (· = g) w w' ∧ CellSet w w' g k v2 ∧ OG outc 4 140 w.heap.size w' v2 l2)
set_option maxHeartbeats 8000000 in
set_option maxRecDepth 100000 in
theorem ftake_any (w : World) (g k : Nat) (v : Value) (l : List O4) (num : Int) (hc : w.cell? ⟨g, k, none⟩ = some v) (hf : w.frozen? ⟨g, k, none⟩ = false) (hr : RG outc 4 w v l) (hl : l.length ≤ 100000000) :
  Calls Tryz.prog 106 #[.pointer (some ⟨g, k, none⟩), .int .i64 num] w fun e w' => FTakeR w g k l e w' := by
 obtain ⟨A, c, rfl, hlc, hcm⟩ := hr.len
 have H := hid hr
 have HI := hid Tryz.info140
 have hgs := World.block_lt_of_cell? w _ hc
 simp only at hgs
 clear hr
 go_enter Tryz.func106, Tryz.ntmps106
 go_wp2_with fail
 obtain ⟨w0, hw0⟩ := lx (w.alloc (.cells #[.int .i64 0, .int .i64 0, .int .i64 0, .int .i64 0] 140))
 obtain ⟨gb, hgb⟩ := lx (w.heap.size)
 have BX : Hid (Blk w0 gb #[.int .i64 0, .int .i64 0, .int .i64 0, .int .i64 0] 140) := hid (by rw [hw0, hgb]; exact Blk.new _ _ _)
 have BW0 : Hid (Below w.heap.size w w0) := hid (by rw [hw0]; exact ba)
 rw [← hw0, ← hgb]
 have HGB := hid hgb
 clear hw0 hgb
 go_loopw [13] (fun i wr => ∃ j : Nat, j ≤ l.length ∧ i = .int .i64 j ∧ Below w0.heap.size w0 wr) (fun i _ => l.length - (intOf i).toNat)
 case atStart => exact ⟨0, Nat.zero_le _, rfl, Below.refl _ _⟩
 case round =>
  obtain ⟨j, hj, rfl, hb⟩ := hrel
  have BR := hid hb
  have BW := hid (bO BW0.out hb)
  have sr : w.heap.size ≤ wr.heap.size := BW.out.size
  have sr0 : w0.heap.size ≤ wr.heap.size := hb.size
  clear hb
  by_cases hjl : j < l.length
  ·have j0 : (0 : Int) ≤ (j : Int) := by omega
   have j1 : (j : Int) < (l.length : Int) := by omega
   have iwj : IntKind.i64.wrap ((j : Int) + 1) = (j : Int) + 1 := iX
   obtain ⟨y, hy⟩ : ∃ y, l[j] = y := ⟨_, rfl⟩
   obtain ⟨q, hq⟩ : ∃ q, (y.1 == num) = q := ⟨_, rfl⟩
   cases q
   ·obtain ⟨ad, rfl, d0, d1, d2, d3⟩ := out_at (H.out.below BW.out) hjl
    rw [hy] at d0 d1 d2 d3
    clear hy
    go_wp2_with fail
    go_roundw
    case rel => exact ⟨j + 1, hjl, by go_num, BR.out.alloc sr0 _⟩
    case measure => simp [intOf]; omega
   ·have HH := H
    obtain ⟨ad, rfl, d0, d1, d2, d3⟩ := out_at (H.out.below BW.out) hjl
    rw [hy] at d0 d1 d2 d3
    clear hy
    have i2 : (j : Int) ≤ (c : Int) := by omega
    have i3 : (j : Int) + 1 ≤ (l.length : Int) := by omega
    have i4 : (0 : Int) ≤ (j : Int) + 1 := by omega
    have i5 : (l.length : Int) ≤ (c : Int) := by omega
    have e0 := cell_in_alloc' d0 (.cells #[.int .i64 y.1, .int .i64 y.2.1, .int .i64 y.2.2.1, .int .i64 y.2.2.2] 140)
    go_wp2_with fail
    obtain ⟨w1, hw1⟩ := lx (wr.alloc (.cells #[.int .i64 y.1, .int .i64 y.2.1, .int .i64 y.2.2.1, .int .i64 y.2.2.2] 140))
    obtain ⟨gx, hgx⟩ := lx (wr.heap.size)
    have BX1 : Hid (Blk w1 gx #[.int .i64 y.1, .int .i64 y.2.1, .int .i64 y.2.2.1, .int .i64 y.2.2.2] 140) := hid (by rw [hw1, hgx]; exact Blk.new _ _ _)
    have B1 : Hid (Below w0.heap.size w0 w1) := hid (by rw [hw1]; exact BR.out.alloc sr0 _)
    have hx0 := BX1.out.cell 0
    have sgx : gx < w1.heap.size := BX1.out.lt
    simp only [gA, gZ] at hx0
    rw [← hw1, ← hgx]
    have HGX := hid hgx
    clear hw1 hgx
    have BWW1 : Hid (Below w.heap.size w w1) := hid (bO BW0.out B1.out)
    have s1 : w.heap.size ≤ w1.heap.size := BWW1.out.size
    have KE : Hid (∀ W, Below w1.heap.size w1 W → W.cell? ⟨g, k, none⟩ = some (.slice (some ad) l.length c) ∧ W.frozen? ⟨g, k, none⟩ = false) := hid (fun W hW => by
     have hb := bO BWW1.out hW
     exact ⟨(hb.cell (p := ⟨g, k, none⟩) hgs).trans hc, (hb.frozen (p := ⟨g, k, none⟩) hgs).trans hf⟩)
    have HS1 : Hid (∀ W, Below w1.heap.size w1 W → Sl W 4 (.slice (some ad) j c) j (rowc outc (l.take j))) := hid (fun W hW => by
     have h := Sl.sub (t := 0) (u := j) (H.out.below (bO BWW1.out hW)) (Nat.zero_le _) hj
     simp only [Nat.sub_zero, Nat.zero_mul, List.drop_zero] at h
     rw [← rowc_take outc_len l j hj]
     have ha : (if c = 0 then (some ad) else Option.map (fun x => x.add 0) (some ad)) = some ad := by simp [addr_zero]
     rw [ha] at h
     exact h)
    obtain ⟨A9, hA9⟩ : ∃ x, (if c = j + 1 then (some ad) else some (ad.add ((j + 1) * 4))) = x := ⟨_, rfl⟩
    have HS2 : Hid (∀ W, Below w1.heap.size w1 W → Sl W 4 (.slice A9 (l.length - (j + 1)) (c - (j + 1))) (l.length - (j + 1)) (rowc outc (l.drop (j + 1)))) := hid (fun W hW => by
     have h := Sl.sub (t := j + 1) (u := l.length) (H.out.below (bO BWW1.out hW)) hjl (Nat.le_refl _)
     rw [Option.map_some, hA9, rowc_drop outc_len l _ hjl, List.take_of_length_le (by rw [rowc_len outc_len, List.length_drop]; exact Nat.le_refl _)] at h
     exact h)
    have G : Hid (Below w1.heap.size w1 w1.drew) := hid (Below.refl _ _).drew
    obtain ⟨k2, k3⟩ := KE.out _ G.out
    go_wp2_with fail
    first | (go_region_law (first | (refine step_app (v := .slice none 0 0) w1.heap.size (by rfl) _ _ 124 140 _ 4 32 (by rfl) Tryz.underlying124 HI.out rfl (by omega) (by omega) (by rfl) (by rfl) (World.ownsRow_nil _ _ _ _) (HS1.out _ G.out) (by omega) G.out.size ?_; intro v7 w7 hown hfr hat; simp only [Nat.zero_add, List.nil_append] at hown; have g_ : Below w1.heap.size w1 w7 := Frm.below G.out hfr G.out.size (fun g hg => by cases hg); clear G; have G := hid g_; have O7 := hid hown; obtain ⟨A7, c7, rfl⟩ := own_slice' hown; clear hown hfr hat g_; obtain ⟨k2_, k3_⟩ := KE.out _ G.out) | (refine step_app (v := .slice A7 j c7) w1.heap.size (by rfl) _ _ 124 140 _ 4 32 (by rfl) Tryz.underlying124 HI.out rfl (by omega) (by omega) (by rfl) (by rfl) O7.out (HS2.out _ G.out) (by omega) G.out.size ?_; intro v8 w8 hown hfr hat; have g_ : Below w1.heap.size w1 w8 := Frm.below G.out hfr G.out.size (fun g hg => (O7.out.lt g hg).1); clear G; have G := hid g_; have O8 := hid hown; obtain ⟨A8, c8, rfl⟩ := own_slice' hown; clear hown hfr hat g_; obtain ⟨k4_, k5_⟩ := KE.out _ G.out))) | fail
    all_goals
     obtain ⟨w9, hw9⟩ := lx (w8.setCell ⟨g, k, none⟩ (.slice A8 (j + (l.length - (j + 1))) c8))
     rw [← hw9]
     have gbw : w.heap.size ≤ gb := by rw [HGB.out]; exact Nat.le_refl _
     have gxw : w.heap.size ≤ gx := by rw [HGX.out]; exact sr
     have X9 : Hid (Blk w9 gx #[.int .i64 y.1, .int .i64 y.2.1, .int .i64 y.2.2.1, .int .i64 y.2.2.2] 140) := hid (by rw [hw9]; exact (BX1.out.below G.out).far (by simp only [ne_eq]; omega) _)
     have Y9 : Hid (Blk w9 gb #[.int .i64 0, .int .i64 0, .int .i64 0, .int .i64 0] 140) := hid (by rw [hw9]; exact (BX.out.below (bO B1.out G.out)).far (by simp only [ne_eq]; omega) _)
     have W9 := hid hw9
     clear hw9
     have x0 := X9.out.cell 0
     have x1 := X9.out.cell 1
     have x2 := X9.out.cell 2
     have x3 := X9.out.cell 3
     have z0 := Y9.out.cell 0
     have z1 := Y9.out.cell 1
     have z2 := Y9.out.cell 2
     have z3 := Y9.out.cell 3
     have y0 := Y9.out.free 0
     have y1 := Y9.out.free 1
     have y2 := Y9.out.free 2
     have y3 := Y9.out.free 3
     simp only [gA, gZ, gC] at x0 x1 x2 x3 z0 z1 z2 z3
     go_wp2_with fail
     refine bodyPost_ret (results_crt rfl _ _ gb 140 (outc y).toArray (0, 0) _ rfl (by simpa [outc, Blk] using (((Y9.out.set 0 (.int .i64 y.1)).set 1 (.int .i64 y.2.1)).set 2 (.int .i64 y.2.2.1)).set 3 (.int .i64 y.2.2.2)) Tryz.underlying140 rfl Tryz.size140) rfl ?_
     have GW : Below w.heap.size w w8 := bO BWW1.out G.out
     have hne : ∀ i, (⟨gb, i, none⟩ : Addr).block ≠ g := fun i => by simp only [ne_eq]; omega
     refine .inr ⟨y, .slice A8 (j + (l.length - (j + 1))) c8, l.take j ++ l.drop (j + 1), fun x hx => ?_, ?_, rfl, ?_, fun cs t hb => ?_, ?_⟩
     ·rcases List.mem_append.1 hx with h | h
      ·exact List.mem_of_mem_take h
      ·exact List.mem_of_mem_drop h
     ·rw [List.length_append, List.length_take, List.length_drop]; omega
     ·rw [W9.out]
      have f := ((Frm.of_below (S := (· = g)) GW).setg (i := k) (.slice A8 (j + (l.length - (j + 1))) c8))
      exact (((f.setNew gbw _).setNew gbw _).setNew gbw _).setNew gbw _
     ·rw [W9.out]
      exact ((((((hb.below GW).set k _).far (hne 0).symm _).far (hne 1).symm _).far (hne 2).symm _).far (hne 3).symm _)
     ·rw [W9.out]
      show World.ownsRow _ _ _ _ _ _ _
      have hlen : (l.take j ++ l.drop (j + 1)).length = j + (l.length - (j + 1)) := by rw [List.length_append, List.length_take, List.length_drop]; omega
      rw [hlen, rowc_app]
      have g1 : (⟨g, k, none⟩ : Addr).block < w1.heap.size := Nat.lt_of_lt_of_le hgs s1
      have g2 : ∀ i, (⟨gb, i, none⟩ : Addr).block < w1.heap.size := fun i => Nat.lt_of_lt_of_le BX.out.lt B1.out.size
      have F := (((((Frm.refl (fun j => j < w1.heap.size) w8).setCell (.inl g1) (.slice A8 (j + (l.length - (j + 1))) c8)).setCell (.inl (g2 0)) (.int .i64 y.1)).setCell (.inl (g2 1)) (.int .i64 y.2.1)).setCell (.inl (g2 2)) (.int .i64 y.2.2.1)).setCell (.inl (g2 3)) (.int .i64 y.2.2.2)
      exact own_base (own_frm O8.out F (fun g' h h' => absurd (O8.out.lt g' h).1 (Nat.not_le.2 h'))) s1
  ·have j1 : ¬ (j : Int) < (l.length : Int) := by omega
   have bx := BX.out.below BR.out
   have x0 := bx.cell 0
   have x1 := bx.cell 1
   have x2 := bx.cell 2
   have x3 := bx.cell 3
   have y0 := bx.free 0
   have y1 := bx.free 1
   have y2 := bx.free 2
   have y3 := bx.free 3
   simp only [gA, gZ, gC] at x0 x1 x2 x3
   clear bx
   go_wp2_with fail
   have h0 : w.heap.size ≤ gb := by rw [HGB.out]; exact Nat.le_refl _
   refine bodyPost_ret (results_crt rfl _ _ gb 140 (outc (0, 0, 0, 0)).toArray (0, 0) _ rfl (by simpa [outc, Blk] using ((((BX.out.below BR.out).set 0 (.int .i64 0)).set 1 (.int .i64 0)).set 2 (.int .i64 0)).set 3 (.int .i64 0)) Tryz.underlying140 rfl Tryz.size140) rfl ?_
   refine .inl ⟨(0, 0, 0, 0), rfl, ?_⟩
   exact (((BW.out.setCell h0 _).setCell h0 _).setCell h0 _).setCell h0 _
end

section
attribute [local go_sem] run_max2' run_min2' run_max_ run_min_
theorem CellSet.refl {w : World} {g k : Nat} {v : Value} (h : w.cell? ⟨g, k, none⟩ = some v) : CellSet w w g k v := fun cs t hb => by
 have h1 := (hb.cell k).symm.trans h
 have : cs.setIfInBounds k v = cs := by
  apply Array.ext'
  rw [Array.toList_setIfInBounds]
  refine List.ext_getElem? fun i => ?_
  rw [List.getElem?_set]
  split
  ·rename_i e
   subst e
   rw [Array.getElem?_toList, h1]
   split
   ·rfl
   ·rename_i hn
    rw [Array.length_toList] at hn
    rw [Array.getElem?_eq_none (by omega)] at h1
    exact absurd h1 (by simp)
  ·rfl
 rw [this]
 exact hb
/-- A set's cell turned. -/
structure SetC (w : World) (gs k : Nat) (v v' : Value) (rs' : List (Int × Int)) (w' : World) : Prop where
 f : Frm (· = gs) w w'
 c : CellSet w w' gs k v'
 r : RR w' v' rs'
 n : v' = v ∨ ∀ j, v'.ownBlock = some j → w.heap.size ≤ j ∧ j < w'.heap.size
theorem SetR.c {w w' : World} {gs k : Nat} {v : Value} {rs' : List (Int × Int)} {e : Ending} (h : SetR w gs k v rs' e w') : ∃ v', SetC w gs k v v' rs' w' := by
 obtain ⟨_, v', ⟨wz, hb, hw⟩, hr, hn⟩ := h
 rcases hw with rfl | ⟨rfl, hc⟩
 ·exact ⟨v', ⟨(Frm.of_below hb).setg _, fun cs t hk => (hk.below hb).set k v', hr, hn⟩⟩
 ·exact ⟨v', ⟨Frm.of_below hb, fun cs t hk => (CellSet.refl hc cs t hk).below hb, hr, hn⟩⟩
theorem plost_any (w : World) (ge k : Nat) (v : Value) (rs : List (Int × Int)) (f t : Int) (hc : w.cell? ⟨ge, k + 1, none⟩ = some v) (hf : w.frozen? ⟨ge, k + 1, none⟩ = false) (hr : RR w v rs) (hl : rs.length ≤ 100000000) :
  Calls Tryz.prog 85 #[.pointer (some ⟨ge, k, none⟩), .int .i64 f, .int .i64 t] w fun e w' => e = .returned (.tuple #[]) ∧ ∃ v', SetC w ge (k + 1) v v' (setAdd f t rs) w' := by
 go_enter Tryz.func85, Tryz.ntmps85
 go_wp2_with fail
 refine (setadd_any w ge (k + 1) v rs f t hc hf hr hl).mono ?_
 intro e w1 h
 obtain ⟨v', h'⟩ := h.c
 obtain ⟨rfl, _⟩ := h
 have H := hid h'
 clear h'
 go_wp2_with fail
 go_end0
 exact ⟨rfl, v', H.out⟩
theorem pn_set {w w1 : World} {ge k nq : Nat} {v1 s' : Value} (C1 : CellSet w w1 ge (k + 1) v1) : ∀ cs t, Blk w ge cs t → Blk ((w1.drewN nq).setCell ⟨ge, k, none⟩ s') ge ((cs.setIfInBounds k s').setIfInBounds (k + 1) v1) t := fun cs t hb => by
 have h := ((C1 cs t hb).drewN nq).set k s'
 have e : (cs.setIfInBounds (k + 1) v1).setIfInBounds k s' = (cs.setIfInBounds k s').setIfInBounds (k + 1) v1 := by
  apply Array.ext'
  simp only [Array.toList_setIfInBounds]
  exact List.set_comm _ _ (by omega)
 rw [e] at h
 exact h
theorem pn_keep {w w1 : World} {ge k nq : Nat} {v1 s : Value} (C1 : CellSet w w1 ge (k + 1) v1) (q0 : w.cell? ⟨ge, k, none⟩ = some s) : ∀ cs t, Blk w ge cs t → Blk (w1.drewN nq) ge ((cs.setIfInBounds k s).setIfInBounds (k + 1) v1) t := fun cs t hb => (C1 _ t (CellSet.refl q0 cs t hb)).drewN nq
theorem pn_two {w w1 w2 : World} {ge k : Nat} {v1 v2 s : Value} (C1 : ∀ cs t, Blk w ge cs t → Blk w1 ge ((cs.setIfInBounds k s).setIfInBounds (k + 1) v1) t) (C2 : CellSet w1 w2 ge (k + 1) v2) : ∀ cs t, Blk w ge cs t → Blk w2 ge ((cs.setIfInBounds k s).setIfInBounds (k + 1) v2) t := fun cs t hb => by
 have h := C2 _ t (C1 cs t hb)
 have e : ((cs.setIfInBounds k s).setIfInBounds (k + 1) v1).setIfInBounds (k + 1) v2 = (cs.setIfInBounds k s).setIfInBounds (k + 1) v2 := by
  apply Array.ext'
  simp only [Array.toList_setIfInBounds, List.set_set]
 rw [e] at h
 exact h
theorem nw_mono {v v1 : Value} {a b c : Nat} (h : v1 = v ∨ ∀ j, v1.ownBlock = some j → a ≤ j ∧ j < b) (k : b ≤ c) : v1 = v ∨ ∀ j, v1.ownBlock = some j → a ≤ j ∧ j < c := h.imp id (fun h j hj => ⟨(h j hj).1, Nat.lt_of_lt_of_le (h j hj).2 k⟩)
theorem rr_of {W : World} {v : Value} {rs : List (Int × Int)} {m : Nat} (hm : rs.length = m) (h : Sl W 2 v m (rcs rs)) : RR W v rs := by subst hm; exact h
/-- What the next piece leaves. -/
def PNextR (w : World) (ge k : Nat) (v : Value) (rs : List (Int × Int)) (e : Ending) (w' : World) : Prop :=
 ∃ (a b : Int) (q : Bool) (s' : Int) (v' : Value) (rs' : List (Int × Int)), e = .returned (.tuple #[.int .i64 a, .int .i64 b, .bool q]) ∧ Frm (· = ge) w w' ∧ (∀ cs t, Blk w ge cs t → Blk w' ge ((cs.setIfInBounds k (.int .i64 s')).setIfInBounds (k + 1) v') t) ∧
  RR w' v' rs' ∧ Srt rs' ∧ rs'.length ≤ rs.length ∧ (v' = v ∨ ∀ j, v'.ownBlock = some j → w.heap.size ≤ j ∧ j < w'.heap.size)
set_option maxHeartbeats 8000000 in
set_option maxRecDepth 100000 in
theorem pnext_any (w : World) (ge go k : Nat) (sent : Int) (v : Value) (rs : List (Int × Int)) (bu ac : Int) (A : Option Addr) (n c : Nat) (cl : Bool) (limit chunk : Int) (cs : Array Value) (t : TypeId)
  (hb : Blk w ge cs t) (hk0 : cs[k]? = some (.int .i64 sent)) (hk1 : cs[k + 1]? = some v) (h : ObC w go bu ac A n c cl) (hne : ge ≠ go) (hown : ∀ j, v.ownBlock = some j → j ≠ ge) (hr : RR w v rs) (hs : Srt rs) (hl : rs.length ≤ 100000000) (hn : n ≤ 100000000) :
  Calls Tryz.prog 91 #[.pointer (some ⟨ge, k, none⟩), .pointer (some ⟨go, 0, none⟩), .int .i64 limit, .int .i64 chunk] w fun e w' => PNextR w ge k v rs e w' := by
 have H := hid hb
 have HO := hid h
 have o1 := h.cell 1
 simp only [gA, gZ, gC] at o1
 have HR := hid hr
 have HS := hid hs
 have K0 := hid hk0
 have K1 := hid hk1
 obtain ⟨ch, hch⟩ : ∃ x, mn (mx chunk 1) 64 = x := ⟨_, rfl⟩
 clear hb h hr hs
 go_enter Tryz.func91, Tryz.ntmps91
 go_wp2_with fail
 refine (clamp_any _ _ _ _).mono ?_
 rintro e _ ⟨rfl, rfl⟩
 rw [hch]
 clear hch hk0 hk1
 go_wp2_with fail
 refine wp_region_still_tail (id := 2) 7 (by kernel_rfl) (by kernel_rfl) ?_
 change wpStill _ _ (World.drew _) (fun a' => wpList _ _ _ _ a' (World.drew _)) _ _
 simp only [List.take_succ_cons, List.take_zero, List.drop_succ_cons, List.drop_zero]
 repeat still_step
 refine wpStill_nil ?_
 go_wp2_with fail
 refine (setcut_any w.drew ge (k + 1) v rs 0 ac (((H.out.drew).cell _).trans K1.out) ((H.out.drew).free _) HR.out hl).mono ?_
 intro e w1 hh
 obtain ⟨v1, h1⟩ := hh.c
 obtain ⟨rfl, _⟩ := hh
 obtain ⟨rs1, hrs1⟩ : ∃ x, setCut 0 ac rs = x := ⟨_, rfl⟩
 obtain ⟨hsr, hlr⟩ := setCut_o 0 ac HS.out (fun r hr => (HS.out.a r hr).1)
 rw [hrs1] at h1 hsr hlr
 have HS1 := hid hsr
 have B1 := hid (h1.c cs t H.out.drew)
 have C1 : Hid (CellSet w w1 ge (k + 1) v1) := hid h1.c
 have Z0 := hid ((H.out.cell k).trans K0.out)
 have F1 : Hid (Frm (· = ge) w w1) := hid ((Frm.refl _ w).drew.trans h1.f)
 have N1 : Hid (v1 = v ∨ ∀ j, v1.ownBlock = some j → w.heap.size ≤ j ∧ j < w1.heap.size) := hid h1.n
 have R1 := hid h1.r
 have O1 := hid (HO.out.frm F1.out (fun e => hne e.symm))
 have hz : k + 1 < cs.size := (Array.getElem?_eq_some_iff.1 K1.out).1
 have q0 : w1.cell? ⟨ge, k, none⟩ = some (.int .i64 sent) := by rw [B1.out.cell k, Array.getElem?_setIfInBounds, if_neg (by omega)]; exact K0.out
 have q1 : w1.cell? ⟨ge, k + 1, none⟩ = some v1 := by rw [B1.out.cell (k + 1), Array.getElem?_setIfInBounds, if_pos rfl, if_pos hz]
 have f0 := B1.out.free k
 have f1 := B1.out.free (k + 1)
 obtain ⟨A1, c1, rfl, _, _⟩ := h1.r.len
 clear h1 hsr hrs1 o1
 have o2 := O1.out.cell 2
 simp only [gA, gZ, gC] at o2
 obtain ⟨op, hop⟩ : ∃ x, openN n cl limit = x := ⟨_, rfl⟩
 have OA : Hid (∀ W : World, W.heap = w1.heap → Calls Tryz.prog 110 #[.pointer (some ⟨go, 0, none⟩), .int .i64 limit] W fun e w' => e = .returned (.int .i64 op) ∧ w' = W) := hid (fun W hW => (oopen_any W go bu ac A n c cl limit (Blk.same O1.out hW) hn).mono (by rintro e _ ⟨rfl, rfl⟩; exact ⟨by rw [hop], rfl⟩))
 clear hop
 go_wp2_with fail
 go_quiet (first | (go_at_call 110; exact Calls.quiet_of_same (OA.out _ rfl)))
 obtain ⟨m, hm⟩ : ∃ m, rs1.length = m := ⟨_, rfl⟩
 rw [hm] at q1 R1 N1 B1 C1 hlr
 have R1 : Hid (Sl w1 2 (.slice A1 m c1) m (rcs rs1)) := hid (hm ▸ R1.out)
 have OWN : Hid (∀ j, v.ownBlock = some j → j ≠ ge) := hid (fun j hj => hown j hj)
 have gl := H.out.lt
 have OW1 : Hid (∀ j, (Value.slice A1 m c1).ownBlock = some j → j ≠ ge) := hid (fun j hj => by
  rcases N1.out with h | h
  ·exact OWN.out j (h ▸ hj)
  ·have := h j hj; omega)
 have RS : Hid (∀ (nq : Nat) (u : Value), Sl ((w1.drewN nq).setCell ⟨ge, k, none⟩ u) 2 (.slice A1 m c1) m (rcs rs1)) := hid (fun nq u => (R1.out.drewN nq).frm ((Frm.refl (· = ge) _).setg (i := k) u) (fun j hj => OW1.out j hj))
 rcases Nat.eq_zero_or_pos m with hm0 | hm0
 ·have m0 : ¬ (0 : Int) < (m : Int) := by omega
  rcases Int.lt_or_le sent op with hlt | hge
  ·obtain ⟨z, hz⟩ : ∃ z, IntKind.i64.wrap (sent + ch) = z := ⟨_, rfl⟩
   go_wp2_with fail
   all_goals
    go_ret3
    exact ⟨_, _, _, _, .slice A1 m c1, rs1, rfl, (F1.out.drewN nq).setg _, pn_set C1.out, rr_of hm (RS.out nq _), HS1.out, hm ▸ hlr, nw_mono N1.out ((Frm.refl (· = ge) (w1.drewN nq)).setg (i := k) _).size⟩
  ·go_wp2_with fail
   go_ret3
   exact ⟨_, _, _, _, .slice A1 m c1, rs1, rfl, F1.out.drewN nq, pn_keep C1.out Z0.out, rr_of hm (R1.out.drewN nq), HS1.out, hm ▸ hlr, nw_mono N1.out (Nat.le_refl _)⟩
 ·have m0 : (0 : Int) < (m : Int) := by omega
  have i0 : (0 : Int) ≤ 0 := by omega
  obtain ⟨r, rest, rfl⟩ : ∃ r rest, rs1 = r :: rest := by
   cases rs1 with
   | nil => simp at hm; omega
   | cons r rest => exact ⟨r, rest, rfl⟩
  obtain ⟨ad, rfl, d0, d1⟩ := RR.at_ (A := A1) (n := m) (c := c1) (rs := r :: rest) (i := 0) (by show Sl _ _ _ _ _; rw [hm]; exact R1.out) (by simp)
  simp only [Nat.zero_mul, addr_zero, List.getElem_cons_zero] at d0 d1
  obtain ⟨z, hz⟩ : ∃ z, IntKind.i64.wrap (r.1 + ch) = z := ⟨_, rfl⟩
  rcases Int.lt_or_le r.1 r.2 with hlt | hge
  ·go_wp2_with fail
   go_quiet (fail)
   go_wp2_with fail
   all_goals
    refine (setcut_any _ ge (k + 1) _ (r :: rest) r.1 _ (by exact q1) (by exact f1) (by show Sl _ _ _ _ _; rw [hm]; exact R1.out) (by rw [hm]; omega)).mono ?_
    intro e w2 hh
    obtain ⟨v2, h2⟩ := hh.c
    obtain ⟨rfl, _⟩ := hh
    have H2 := hid h2
    clear h2
    go_wp2_with fail
    go_ret3
    exact ⟨_, _, _, _, _, _, rfl, (F1.out.drewN _).trans (H2.out.f), pn_two (pn_keep C1.out Z0.out) H2.out.c, H2.out.r, (setCut_o _ _ HS1.out HS1.out.head).1, Nat.le_trans (setCut_o _ _ HS1.out HS1.out.head).2 (hm ▸ hlr), H2.out.n.elim (fun h => by rw [h]; exact nw_mono N1.out H2.out.f.size) (fun h => .inr (fun j hj => ⟨Nat.le_trans F1.out.size (h j hj).1, (h j hj).2⟩))⟩
  ·go_wp2_with fail
   go_quiet (fail)
   go_wp2_with fail
   go_ret3
   exact ⟨_, _, _, _, .slice (some ad) m c1, r :: rest, rfl, F1.out.drewN _, pn_keep C1.out Z0.out, rr_of hm (R1.out.drewN _), HS1.out, hm ▸ hlr, nw_mono N1.out (Nat.le_refl _)⟩
end
end Go.Proofs.YtdneakejlbabeaaGreat
