/- Parts of the walk: Dj, Dl, Dm, Dh, Di, Dn, Dp. -/
import Derived.Test.YtdneakejlbabeaaGreatM03
import Derived.StillTailTactics
import Derived.Test.YtdneakejlbabeaaGreatM04
import Derived.Deep.RegionLaw
import Derived.Deep.RegionHeld3
namespace Go.Proofs.YtdneakejlbabeaaGreat
open Go.RowKit
set_option linter.unusedVariables false
set_option linter.unusedSimpArgs false
attribute [local go_sem] run_max2' run_min2' run_max_ run_min_

abbrev ObC (w : World) (g : Nat) (bu ac : Int) (A : Option Addr) (n c : Nat) (cl : Bool) : Prop := Blk w g #[.int .i64 bu, .int .i64 ac, .slice A n c, .bool cl] 133
def placesN (n : Nat) (cl : Bool) : Nat := if cl then n + 1 else n
theorem places_any (w : World) (g : Nat) (bu ac : Int) (A : Option Addr) (n c : Nat) (cl : Bool) (h : ObC w g bu ac A n c cl) (hn : n ≤ 100000000) :
    Calls Tryz.prog 63 #[.pointer (some ⟨g, 0, none⟩)] w fun e w' => e = .returned (.int .i64 (placesN n cl : Nat)) ∧ w = w' := by
  have c2 := h.cell 2
  have c3 := h.cell 3
  simp at c2 c3
  have iw : IntKind.i64.wrap ((n : Int) + 1) = (n : Int) + 1 := IntWalk.i64_in _ ⟨by omega, by omega⟩
  clear h
  cases cl
  · go_enter Tryz.func63, Tryz.ntmps63
    go_wp2
    go_ret
    exact ⟨rfl, rfl⟩
  · go_enter Tryz.func63, Tryz.ntmps63
    go_wp2
    go_ret
    exact ⟨rfl, rfl⟩
def openN (n : Nat) (cl : Bool) (limit : Int) : Int := if (n : Int) ≤ limit then (placesN n cl : Nat) else mx limit 0
theorem oopen_any (w : World) (g : Nat) (bu ac : Int) (A : Option Addr) (n c : Nat) (cl : Bool) (limit : Int) (h : ObC w g bu ac A n c cl) (hn : n ≤ 100000000) :
    Calls Tryz.prog 110 #[.pointer (some ⟨g, 0, none⟩), .int .i64 limit] w fun e w' => e = .returned (.int .i64 (openN n cl limit)) ∧ w = w' := by
  have c2 := h.cell 2
  simp at c2
  have H := Lib.hid h
  clear h
  by_cases hl : (n : Int) ≤ limit
  · have e : openN n cl limit = (placesN n cl : Nat) := if_pos hl
    rw [e]
    go_enter Tryz.func110, Tryz.ntmps110
    go_wp2_with fail
    refine (places_any w g bu ac A n c cl H.out hn).mono ?_
    rintro e _ ⟨rfl, rfl⟩
    go_wp2_with fail
    go_ret
    exact ⟨rfl, rfl⟩
  · have e : openN n cl limit = mx limit 0 := if_neg hl
    rw [e]
    go_enter Tryz.func110, Tryz.ntmps110
    go_wp2_with fail
    go_ret
    exact ⟨rfl, rfl⟩
theorem oack_any (w : World) (g : Nat) (bu ac : Int) (A : Option Addr) (n c : Nat) (cl : Bool) (seen : Int) (h : ObC w g bu ac A n c cl) (hn : n ≤ 100000000) :
    Calls Tryz.prog 78 #[.pointer (some ⟨g, 0, none⟩), .int .i64 seen] w fun e w' => ∃ b ac', e = .returned (.bool b) ∧ ObC w' g bu ac' A n c cl ∧ Frm (· = g) w w' ∧ ((ac' = ac) ∨ (0 ≤ seen ∧ seen ≤ (placesN n cl : Nat) ∧ ac' = mx ac seen)) := by
  have c1 := h.cell 1
  have f1 := h.free 1
  simp at c1
  have H := Lib.hid h
  clear h
  obtain ⟨p, hp⟩ : ∃ p, placesN n cl = p := ⟨_, rfl⟩
  by_cases h0 : seen < 0
  · go_enter Tryz.func78, Tryz.ntmps78
    go_wp2_with fail
    go_ret
    exact ⟨false, ac, rfl, H.out, Frm.refl _ _, .inl rfl⟩
  · by_cases h1 : (p : Int) < seen
    · go_enter Tryz.func78, Tryz.ntmps78
      go_wp2_with fail
      refine (places_any w g bu ac A n c cl H.out hn).mono ?_
      rintro e _ ⟨rfl, rfl⟩
      rw [hp]
      go_wp2_with fail
      go_ret
      exact ⟨false, ac, rfl, H.out, Frm.refl _ _, .inl rfl⟩
    · go_enter Tryz.func78, Tryz.ntmps78
      go_wp2_with fail
      refine (places_any w g bu ac A n c cl H.out hn).mono ?_
      rintro e _ ⟨rfl, rfl⟩
      rw [hp]
      go_wp2_with fail
      go_ret
      refine ⟨true, mx ac seen, rfl, ?_, (Frm.refl _ _).setg _, .inr ⟨by omega, by omega, rfl⟩⟩
      have := H.out.set 1 (.int .i64 (mx ac seen))
      simpa using this
theorem newoutbox_any (n : Int) (w : World) : Calls Tryz.prog 54 #[.int .i64 n] w fun e w' => ∃ g bu, e = .returned (.pointer (some ⟨g, 0, none⟩)) ∧ w.heap.size ≤ g ∧ 1 ≤ bu ∧ bu ≤ 400 ∧ ObC w' g bu 0 none 0 0 false ∧ Below w.heap.size w w' := by
  go_enter Tryz.func54, Tryz.ntmps54
  go_wp2_with fail
  refine (clamp_any _ _ _ _).mono ?_
  rintro e _ ⟨rfl, rfl⟩
  obtain ⟨z, hz⟩ : ∃ z, z = mn (mx n 1) 400 := ⟨_, rfl⟩
  have hz2 : 1 ≤ z ∧ z ≤ 400 := by rw [hz]; unfold mn mx; split <;> split <;> omega
  rw [← hz]
  clear hz
  go_wp2_with fail
  go_ret
  exact ⟨_, z, rfl, Nat.le_refl _, hz2.1, hz2.2, Blk.new _ _ _, (Below.refl _ _).alloc (Nat.le_refl _) _⟩
end Go.Proofs.YtdneakejlbabeaaGreat

namespace Go.Proofs.YtdneakejlbabeaaGreat
open Go.RowKit
set_option linter.unusedVariables false
set_option linter.unusedSimpArgs false
attribute [local go_sem] run_max2' run_min2' run_max_ run_min_

set_option maxHeartbeats 4000000 in
set_option maxRecDepth 100000 in
theorem wack_any (g : Nat) (w : World) (h : WOk w g) : Calls Tryz.prog 108 #[.pointer (some ⟨g, 0, none⟩)] w fun e w' => e = .returned (.tuple #[]) ∧ WOk w' g ∧ Frm (· = g) w w' := by
  have H := Lib.hid h
  obtain ⟨m, s, t, c, hb⟩ := h
  have c0 := hb.cell 0
  have c1 := hb.cell 1
  have c2 := hb.cell 2
  have c3 := hb.cell 3
  have f1 := hb.free 1
  have f3 := hb.free 3
  simp at c0 c1 c2 c3
  clear hb
  obtain ⟨y, hy⟩ : ∃ y, IntKind.i64.wrap (c + 1) = y := ⟨_, rfl⟩
  obtain ⟨z, hz⟩ : ∃ z, IntKind.i64.wrap (s + 1) = z := ⟨_, rfl⟩
  by_cases h1 : s < t
  · go_enter Tryz.func108, Tryz.ntmps108
    go_wp2_with fail
    go_quiet (fail)
    go_wp2_with fail
    refine wp_region_still_tail (id := 1) 13 (by kernel_rfl) (by kernel_rfl) ?_
    change wpStill _ _ (World.drew _) (fun a' => wpList _ _ _ _ a' (World.drew _)) _ _
    simp only [List.take_succ_cons, List.take_zero, List.drop_succ_cons, List.drop_zero]
    repeat still_step
    refine wpStill_nil ?_
    go_wp2_with fail
    refine bodyPost_ret (results_none rfl _ _ _) rfl ?_
    exact ⟨rfl, by repeat (first | with_reducible exact H.out | with_reducible apply WOk.drewN | with_reducible apply WOk.drew | with_reducible apply WOk.s1 | with_reducible apply WOk.s3), by repeat (first | with_reducible exact Frm.refl _ _ | with_reducible apply Frm.setg | with_reducible apply Frm.drewN | with_reducible apply Frm.drew)⟩
  · by_cases h2 : s ≤ y
    · go_enter Tryz.func108, Tryz.ntmps108
      go_wp2_with fail
      go_quiet (fail)
      go_wp2_with fail
      go_quiet (fail)
      go_wp2_with fail
      go_region
      all_goals
        go_wp2_with fail
        go_end0
        exact ⟨rfl, by repeat (first | with_reducible exact H.out | with_reducible apply WOk.drewN | with_reducible apply WOk.drew | with_reducible apply WOk.s1 | with_reducible apply WOk.s3), by repeat (first | with_reducible exact Frm.refl _ _ | with_reducible apply Frm.setg | with_reducible apply Frm.drewN | with_reducible apply Frm.drew)⟩
    · go_enter Tryz.func108, Tryz.ntmps108
      go_wp2_with fail
      go_quiet (fail)
      go_wp2_with fail
      go_quiet (fail)
      go_wp2_with fail
      go_end0
      exact ⟨rfl, by repeat (first | with_reducible exact H.out | with_reducible apply WOk.drewN | with_reducible apply WOk.drew | with_reducible apply WOk.s1 | with_reducible apply WOk.s3), by repeat (first | with_reducible exact Frm.refl _ _ | with_reducible apply Frm.setg | with_reducible apply Frm.drewN | with_reducible apply Frm.drew)⟩
end Go.Proofs.YtdneakejlbabeaaGreat

namespace Go.Proofs.YtdneakejlbabeaaGreat
open Go.RowKit
set_option linter.unusedVariables false
set_option linter.unusedSimpArgs false
attribute [local go_sem] run_max2' run_min2' run_max_ run_min_

def WaitR (w : World) (e : Ending) (w' : World) : Prop := ∃ z, e = .returned (.int .i64 z) ∧ Below w.heap.size w w'
set_option maxHeartbeats 4000000 in
set_option maxRecDepth 100000 in
theorem wait_any (g : Nat) (w : World) (h : GOk w g) : Calls Tryz.prog 87 #[.pointer (some ⟨g, 0, none⟩)] w fun e w' => WaitR w e w' := by
  obtain ⟨a, b, c, d, s, hb, hd0, hd1, hm0, hm1⟩ := h
  have H := Lib.hid hb
  have c0 := hb.cell 0
  have c1 := hb.cell 1
  have c2 := hb.cell 2
  have c4 := hb.cell 4
  simp at c0 c1 c2 c4
  clear hb hm0 hm1
  obtain ⟨y, hy⟩ : ∃ y, IntKind.i64.wrap (4 * c) = y := ⟨_, rfl⟩
  obtain ⟨x, hx⟩ : ∃ x, IntKind.i64.wrap (b + mx 1 y) = x := ⟨_, rfl⟩
  obtain ⟨u, hu⟩ : ∃ u, mn (mx x 1) 64 = u := ⟨_, rfl⟩
  have HU := Lib.hid hu
  clear hu
  go_enter Tryz.func87, Tryz.ntmps87
  cases s
  · go_wp2_with fail
    go_loopw [3, 4] (fun v i wr => ∃ (k : Nat) (z : Int), (k : Int) ≤ d ∧ i = .int .i64 k ∧ v = .int .i64 z ∧ Below w.heap.size w wr) (fun _ i _ => 6 - (intOf i).toNat)
    case atStart => exact ⟨0, _, by omega, rfl, rfl, Below.refl _ _⟩
    case round =>
      obtain ⟨k, z, hk, rfl, rfl, hb⟩ := hrel
      have BR := Lib.hid hb
      have c3 := (H.out.below hb).cell 3
      simp only [List.getElem?_toArray, List.getElem?_cons_zero, List.getElem?_cons_succ] at c3
      have iwk : IntKind.i64.wrap ((k : Int) + 1) = (k : Int) + 1 := IntWalk.i64_in _ ⟨by omega, by omega⟩
      clear hb
      by_cases hkd : (k : Int) < d
      · go_wp2_with fail
        go_roundw
        case rel => exact ⟨k + 1, _, by omega, by go_num, rfl, BR.out⟩
        case measure => simp [intOf]; omega
      · go_wp2_with fail
        go_ret
        exact ⟨_, rfl, BR.out⟩
  · go_wp2_with fail
    refine wp_region_still_tail (id := 3) 11 (by kernel_rfl) (by kernel_rfl) ?_
    change wpStill _ _ (World.drew _) (fun a' => wpList _ _ _ _ a' (World.drew _)) _ _
    simp only [List.take_succ_cons, List.take_zero, List.drop_succ_cons, List.drop_zero]
    repeat still_step
    refine wpStill_nil ?_
    go_wp2_with fail
    refine (clamp_any _ _ _ _).mono ?_
    rintro e _ ⟨rfl, rfl⟩
    go_wp2_with fail
    go_loopw [3, 4] (fun v i wr => ∃ (k : Nat) (z : Int), (k : Int) ≤ d ∧ i = .int .i64 k ∧ v = .int .i64 z ∧ Below w.heap.size w wr) (fun _ i _ => 6 - (intOf i).toNat)
    case atStart => exact ⟨0, _, by omega, rfl, rfl, (Below.refl _ _).drew⟩
    case round =>
      obtain ⟨k, z, hk, rfl, rfl, hb⟩ := hrel
      have BR := Lib.hid hb
      have c3 := (H.out.below hb).cell 3
      simp only [List.getElem?_toArray, List.getElem?_cons_zero, List.getElem?_cons_succ] at c3
      have iwk : IntKind.i64.wrap ((k : Int) + 1) = (k : Int) + 1 := IntWalk.i64_in _ ⟨by omega, by omega⟩
      clear hb
      by_cases hkd : (k : Int) < d
      · go_wp2_with fail
        go_roundw
        case rel => exact ⟨k + 1, _, by omega, by go_num, rfl, BR.out⟩
        case measure => simp [intOf]; omega
      · go_wp2_with fail
        go_ret
        exact ⟨_, rfl, BR.out⟩
end Go.Proofs.YtdneakejlbabeaaGreat

namespace Go.Proofs.YtdneakejlbabeaaGreat
open Go.RowKit
set_option linter.unusedVariables false
set_option linter.unusedSimpArgs false
attribute [local go_sem] run_max2' run_min2' run_max_ run_min_

def rowc {α : Type} (f : α → List Value) : List α → List Value
  | [] => []
  | a :: l => f a ++ rowc f l
section
variable {α : Type} {f : α → List Value} {k te B : Nat} {w : World} {v : Value} {l : List α}
theorem rowc_len (hf : ∀ a, (f a).length = k) : ∀ l : List α, (rowc f l).length = l.length * k
  | [] => by simp [rowc]
  | a :: l => by simp only [rowc, List.length_append, hf, List.length_cons, rowc_len hf l, Nat.add_mul]; omega
theorem rowc_app : ∀ l m : List α, rowc f (l ++ m) = rowc f l ++ rowc f m
  | [], m => rfl
  | a :: l, m => by simp [rowc, rowc_app l m]
theorem rowc_one (h1 : ∀ a, ∀ u ∈ f a, u.oneCell' = true) : ∀ l : List α, ∀ u ∈ rowc f l, u.oneCell' = true
  | [], u, h => by cases h
  | a :: l, u, h => by
    rcases List.mem_append.1 h with h | h
    · exact h1 a u h
    · exact rowc_one h1 l u h
theorem rowc_at (hf : ∀ a, (f a).length = k) : ∀ (l : List α) (i j : Nat) (h : i < l.length), j < k → (rowc f l)[i * k + j]? = (f l[i])[j]?
  | [], i, j, h, _ => by simp at h
  | a :: l, 0, j, h, hj => by
    simp only [rowc, Nat.zero_mul, Nat.zero_add]
    rw [List.getElem?_append_left (by rw [hf]; exact hj)]
    rfl
  | a :: l, i + 1, j, h, hj => by
    simp only [rowc]
    rw [List.getElem?_append_right (by rw [hf, Nat.add_mul]; omega), show (i + 1) * k + j - (f a).length = i * k + j by rw [hf, Nat.add_mul]; omega]
    exact rowc_at hf l i j (by simpa using h) hj
abbrev RG (f : α → List Value) (k : Nat) (w : World) (v : Value) (l : List α) : Prop := Sl w k v l.length (rowc f l)
abbrev OG (f : α → List Value) (k te B : Nat) (w : World) (v : Value) (l : List α) : Prop := w.ownsRow B te k v l.length (rowc f l)
theorem OG.push {a : α} (h : w.ownsRow B te k v (l.length + 1) (rowc f l ++ f a)) : OG f k te B w v (l ++ [a]) := by
  show w.ownsRow B te k v (l ++ [a]).length (rowc f (l ++ [a]))
  rw [rowc_app, List.length_append]
  simpa [rowc] using h
theorem RG.at_ {A : Option Addr} {n c : Nat} (h : RG f k w (.slice A n c) l) (hk : 0 < k) (hf : ∀ a, (f a).length = k) {i : Nat} (hi : i < l.length) : ∃ ad, A = some ad ∧ ∀ j u, (f l[i])[j]? = some u → w.cell? ((ad.add (i * k)).add j) = some u := by
  obtain ⟨A', c', e, _, _, h6, _, h5⟩ := h
  injection e with e1 e2 e3
  subst e1
  obtain ⟨ad, rfl, hc⟩ := h5 (by rw [rowc_len hf]; exact Nat.mul_pos (by omega) hk)
  refine ⟨ad, rfl, fun j u hj => ?_⟩
  rw [addr_add]
  have hlt := (List.getElem?_eq_some_iff.1 hj).1
  rw [hf] at hlt
  exact hc _ u (by rw [rowc_at hf l i j hi hlt]; exact hj)
end
theorem Tryz.info140 : (Tryz.prog.info? 140).map (fun i => (i.zero, i.size, i.bytes)) = some (some (.agg #[.int .i64 0, .int .i64 0, .int .i64 0, .int .i64 0]), 4, 32) := by kernel_rfl
abbrev O4 := Int × Int × Int × Int
def outc (o : O4) : List Value := [.int .i64 o.1, .int .i64 o.2.1, .int .i64 o.2.2.1, .int .i64 o.2.2.2]
theorem outc_len (o : O4) : (outc o).length = 4 := rfl
theorem outc_one (o : O4) : ∀ u ∈ outc o, u.oneCell' = true := by intro u hu; simp [outc] at hu; rcases hu with rfl | rfl | rfl | rfl <;> rfl
theorem out_at {w : World} {A : Option Addr} {n c : Nat} {l : List O4} (h : RG outc 4 w (.slice A n c) l) {i : Nat} (hi : i < l.length) : ∃ ad, A = some ad ∧ w.cell? (ad.add (i * 4)) = some (.int .i64 l[i].1) ∧ w.cell? ⟨(ad.add (i * 4)).block, (ad.add (i * 4)).off + 1, none⟩ = some (.int .i64 l[i].2.1) ∧ w.cell? ⟨(ad.add (i * 4)).block, (ad.add (i * 4)).off + 2, none⟩ = some (.int .i64 l[i].2.2.1) ∧ w.cell? ⟨(ad.add (i * 4)).block, (ad.add (i * 4)).off + 3, none⟩ = some (.int .i64 l[i].2.2.2) := by
  obtain ⟨ad, rfl, hc⟩ := RG.at_ h (by omega) outc_len hi
  have h0 := hc 0 _ rfl
  rw [addr_zero] at h0
  have g := fun (j : Nat) (hj : j ≠ 0) (u : Value) (hu : (outc l[i])[j]? = some u) => by
    have := hc j u hu
    rw [addr_pos _ _ hj] at this
    exact this
  exact ⟨ad, rfl, h0, g 1 (by omega) _ rfl, g 2 (by omega) _ rfl, g 3 (by omega) _ rfl⟩

/-- Dropping all. -/
theorem drop_any (w : World) (g k : Nat) (v : Value) (l : List O4) (hc : w.cell? ⟨g, k, none⟩ = some v) (hf : w.frozen? ⟨g, k, none⟩ = false) (hr : RG outc 4 w v l) :
    Calls Tryz.prog 69 #[.pointer (some ⟨g, k, none⟩)] w fun e w' => e = .returned v ∧ w' = w.setCell ⟨g, k, none⟩ (.slice none 0 0) := by
  obtain ⟨A, c, rfl, _⟩ := hr.len
  clear hr
  go_enter Tryz.func69, Tryz.ntmps69
  go_wp2
  go_ret
  exact ⟨rfl, rfl⟩
def lates (z : Int) (l : List O4) : List O4 := l.filter fun o => decide (o.2.2.2 ≤ z)
def stays (z : Int) (l : List O4) : List O4 := l.filter fun o => !decide (o.2.2.2 ≤ z)
def LateR (w : World) (g k : Nat) (z : Int) (l : List O4) (e : Ending) (w' : World) : Prop :=
  ∃ v1 v2 wz, e = .returned v1 ∧ Below w.heap.size w wz ∧ w' = wz.setCell ⟨g, k, none⟩ v2 ∧ OG outc 4 140 w.heap.size wz v1 (lates z l) ∧ OG outc 4 140 w.heap.size wz v2 (stays z l) ∧ ∀ j, v1.ownBlock = some j → ¬ v2.ownBlock = some j
set_option maxHeartbeats 8000000 in
set_option maxRecDepth 100000 in
theorem flate_any (w : World) (g k : Nat) (v : Value) (l : List O4) (now wait : Int) (hc : w.cell? ⟨g, k, none⟩ = some v) (hf : w.frozen? ⟨g, k, none⟩ = false) (hr : RG outc 4 w v l) (hl : l.length ≤ 100000000) :
    Calls Tryz.prog 86 #[.pointer (some ⟨g, k, none⟩), .int .i64 now, .int .i64 wait] w fun e w' => LateR w g k (IntKind.i64.wrap (now - wait)) l e w' := by
  obtain ⟨A, c, rfl, _, _⟩ := hr.len
  have H := Lib.hid hr
  have HI := Lib.hid Tryz.info140
  have hgs := World.block_lt_of_cell? w _ hc
  simp only at hgs
  clear hr
  obtain ⟨z, hz⟩ : ∃ z, IntKind.i64.wrap (now - wait) = z := ⟨_, rfl⟩
  rw [hz]
  go_enter Tryz.func86, Tryz.ntmps86
  go_wp2_with fail
  go_loopw [7, 8, 16] (fun v7 v8 i wr => ∃ j : Nat, j ≤ l.length ∧ i = .int .i64 j ∧ OG outc 4 140 w.heap.size wr v7 (lates z (l.take j)) ∧ OG outc 4 140 w.heap.size wr v8 (stays z (l.take j)) ∧ (∀ g, v7.ownBlock = some g → ¬ v8.ownBlock = some g) ∧ Below w.heap.size w wr) (fun _ _ i _ => l.length - (intOf i).toNat)
  case atStart => exact ⟨0, Nat.zero_le _, rfl, World.ownsRow_nil _ _ _ _, World.ownsRow_nil _ _ _ _, (fun g h => by cases h), Below.refl _ _⟩
  case round =>
    obtain ⟨j, hj, rfl, ho7, ho8, hap, hb⟩ := hrel
    have O7 := Lib.hid ho7
    have O8 := Lib.hid ho8
    have BR := Lib.hid hb
    have sr : w.heap.size ≤ wr.heap.size := hb.size
    obtain ⟨A7, c7, rfl⟩ := own_slice' ho7
    obtain ⟨A8, c8, rfl⟩ := own_slice' ho8
    have AP := Lib.hid hap
    have hl7 : (lates z (l.take j)).length ≤ 100000000 := Nat.le_trans (List.length_filter_le _ _) (by rw [List.length_take]; omega)
    have hl8 : (stays z (l.take j)).length ≤ 100000000 := Nat.le_trans (List.length_filter_le _ _) (by rw [List.length_take]; omega)
    clear ho7 ho8 hb hap
    by_cases hjl : j < l.length
    · have j0 : (0 : Int) ≤ (j : Int) := by omega
      have j1 : (j : Int) < (l.length : Int) := by omega
      have iwj : IntKind.i64.wrap ((j : Int) + 1) = (j : Int) + 1 := IntWalk.i64_in _ ⟨by omega, by omega⟩
      obtain ⟨ad, rfl, d0, d1, d2, d3⟩ := out_at (H.out.below BR.out) hjl
      obtain ⟨o, ho⟩ : ∃ o, l[j] = o := ⟨_, rfl⟩
      have T7 : Hid (lates z (l.take (j + 1)) = if o.2.2.2 ≤ z then lates z (l.take j) ++ [o] else lates z (l.take j)) := Lib.hid (by rw [List.take_add_one, List.getElem?_eq_getElem hjl, ho]; unfold lates; rw [List.filter_append]; by_cases h : o.2.2.2 ≤ z <;> simp [h])
      have T8 : Hid (stays z (l.take (j + 1)) = if o.2.2.2 ≤ z then stays z (l.take j) else stays z (l.take j) ++ [o]) := Lib.hid (by rw [List.take_add_one, List.getElem?_eq_getElem hjl, ho]; unfold stays; rw [List.filter_append]; by_cases h : o.2.2.2 ≤ z <;> simp [h])
      rw [ho] at d0 d1 d2 d3
      clear ho
      obtain ⟨la, hla⟩ : ∃ x, lates z (l.take j) = x := ⟨_, rfl⟩
      obtain ⟨st, hst⟩ : ∃ x, stays z (l.take j) = x := ⟨_, rfl⟩
      rw [hla] at O7 T7 hl7 AP
      rw [hst] at O8 T8 hl8 AP
      rw [hla, hst]
      clear hla hst
      have B1 : Hid (Below w.heap.size w (wr.alloc (.cells #[.int .i64 o.1, .int .i64 o.2.1, .int .i64 o.2.2.1, .int .i64 o.2.2.2] 140))) := Lib.hid (BR.out.alloc sr _)
      have s1 : w.heap.size ≤ (wr.alloc (.cells #[.int .i64 o.1, .int .i64 o.2.1, .int .i64 o.2.2.1, .int .i64 o.2.2.2] 140)).heap.size := B1.out.size
      have O7' := O7
      have O8' := O8
      have O7 : Hid (OG outc 4 140 w.heap.size (wr.alloc (.cells #[.int .i64 o.1, .int .i64 o.2.1, .int .i64 o.2.2.1, .int .i64 o.2.2.2] 140)) (.slice A7 la.length c7) la) := Lib.hid (O7'.out.alloc _)
      have O8 : Hid (OG outc 4 140 w.heap.size (wr.alloc (.cells #[.int .i64 o.1, .int .i64 o.2.1, .int .i64 o.2.2.1, .int .i64 o.2.2.2] 140)) (.slice A8 st.length c8) st) := Lib.hid (O8'.out.alloc _)
      clear O7' O8'
      by_cases h1 : o.2.2.2 ≤ z
      · go_wp2_with (at_builtin; refine wp_app w.heap.size rfl _ _ 124 140 _ 4 32 rfl Tryz.underlying124 HI.out rfl (by omega) (by omega) rfl rfl ((O7.out).alloc _) (Sl.boxk (wr.alloc (.cells #[.int .i64 o.1, .int .i64 o.2.1, .int .i64 o.2.2.1, .int .i64 o.2.2.2] 140)) 140 4 (outc o) _ (by simp) rfl (by simp [outc, Value.oneCell'])) (by first | omega | (simp only [List.length_append, List.length_cons, List.length_nil]; omega)) (Nat.le_trans s1 (by simp)) ?_; intro v9 w9 hown hfr hat; have O9 := Lib.hid (OG.push (l := la) (a := o) hown); have B9 := Lib.hid (Frm.below ((B1.out).alloc s1 _) hfr (Nat.le_trans s1 (by simp)) (fun g hg => ((O7.out).lt g hg).1)); have s9 : w.heap.size ≤ w9.heap.size := B9.out.size; have P9 := Lib.hid (own_frm (O8.out.alloc _) hfr (fun g h8 h7 => AP.out g h7 h8)); have AP9 : Hid (∀ j, v9.ownBlock = some j → ¬ (Value.slice A8 st.length c8).ownBlock = some j) := Lib.hid (fun j h7 h8 => by rcases hat with ha | ha; exact AP.out j (ha ▸ h7) h8; (rw [ha] at h7; injection h7 with h7; have h9 := (O8.out.lt j h8).2; exact absurd h9 (by rw [← h7]; exact Nat.not_lt.2 (by simp)))); obtain ⟨A9, c9, rfl⟩ := own_slice' hown; clear hown hfr hat)
        (try go_wp2_with fail)
        go_roundw
        case rel => exact ⟨j + 1, hjl, by go_num, by rw [T7.out, if_pos h1]; exact O9.out, by rw [T8.out, if_pos h1]; exact P9.out, AP9.out, B9.out⟩
        case measure => simp [intOf]; omega
      · go_wp2_with (at_builtin; refine wp_app w.heap.size rfl _ _ 124 140 _ 4 32 rfl Tryz.underlying124 HI.out rfl (by omega) (by omega) rfl rfl ((O8.out).alloc _) (Sl.boxk (wr.alloc (.cells #[.int .i64 o.1, .int .i64 o.2.1, .int .i64 o.2.2.1, .int .i64 o.2.2.2] 140)) 140 4 (outc o) _ (by simp) rfl (by simp [outc, Value.oneCell'])) (by first | omega | (simp only [List.length_append, List.length_cons, List.length_nil]; omega)) (Nat.le_trans s1 (by simp)) ?_; intro v9 w9 hown hfr hat; have O9 := Lib.hid (OG.push (l := st) (a := o) hown); have B9 := Lib.hid (Frm.below ((B1.out).alloc s1 _) hfr (Nat.le_trans s1 (by simp)) (fun g hg => ((O8.out).lt g hg).1)); have s9 : w.heap.size ≤ w9.heap.size := B9.out.size; have P9 := Lib.hid (own_frm (O7.out.alloc _) hfr (fun g h7 h8 => AP.out g h7 h8)); have AP9 : Hid (∀ j, (Value.slice A7 la.length c7).ownBlock = some j → ¬ v9.ownBlock = some j) := Lib.hid (fun j h7 h8 => by rcases hat with ha | ha; exact AP.out j h7 (ha ▸ h8); (rw [ha] at h8; injection h8 with h8; have h9 := (O7.out.lt j h7).2; exact absurd h9 (by rw [← h8]; exact Nat.not_lt.2 (by simp)))); obtain ⟨A9, c9, rfl⟩ := own_slice' hown; clear hown hfr hat)
        (try go_wp2_with fail)
        go_roundw
        case rel => exact ⟨j + 1, hjl, by go_num, by rw [T7.out, if_neg h1]; exact P9.out, by rw [T8.out, if_neg h1]; exact O9.out, AP9.out, B9.out⟩
        case measure => simp [intOf]; omega
    · have j1 : ¬ (j : Int) < (l.length : Int) := by omega
      obtain rfl : j = l.length := by omega
      rw [List.take_length] at O7 O8 AP
      rw [List.take_length]
      have cr := (BR.out.cell (p := ⟨g, k, none⟩) hgs).trans hc
      have fr := (BR.out.frozen (p := ⟨g, k, none⟩) hgs).trans hf
      go_wp2_with fail
      go_ret
      exact ⟨_, _, wr, rfl, BR.out, rfl, O7.out, O8.out, AP.out⟩
end Go.Proofs.YtdneakejlbabeaaGreat

namespace Go.Proofs.YtdneakejlbabeaaGreat
open Go.RowKit
set_option linter.unusedVariables false
set_option linter.unusedSimpArgs false
attribute [local go_sem] run_max2' run_min2' run_max_ run_min_

theorem cell_in_alloc' {w : World} {p : Addr} {v : Value} (h : w.cell? p = some v) (o : Obj) : (w.alloc o).cell? p = some v :=
  (((Below.refl w.heap.size w).alloc (Nat.le_refl _) o).cell (World.block_lt_of_cell? w p h)).trans h
theorem Below.on' {B : Nat} {a w w' : World} (h : Below B a w) (hB : B ≤ a.heap.size) (k : Below w.heap.size w w') : Below B a w' := h.trans (k.mono (Nat.le_trans hB h.size))
def AddR (w : World) (B g k : Nat) (v : Value) (l : List O4) (o : O4) (e : Ending) (w' : World) : Prop :=
  (e = .returned (.bool false) ∧ Below w.heap.size w w') ∨
  (e = .returned (.bool true) ∧ ∃ v' wz, Frm (fun j => v.ownBlock = some j) w wz ∧ w' = wz.setCell ⟨g, k, none⟩ v' ∧ OG outc 4 140 B wz v' (l ++ [o]) ∧ (v'.ownBlock = v.ownBlock ∨ ∀ j, v'.ownBlock = some j → w.heap.size ≤ j))
set_option maxHeartbeats 8000000 in
set_option maxRecDepth 100000 in
theorem fadd_any (w : World) (B g k : Nat) (v : Value) (l : List O4) (o : O4) (hc : w.cell? ⟨g, k, none⟩ = some v) (hf : w.frozen? ⟨g, k, none⟩ = false) (hr : OG outc 4 140 B w v l) (hB : B ≤ w.heap.size) (hg : ∀ j, v.ownBlock = some j → j ≠ g) (hl : l.length ≤ 100000000) :
    Calls Tryz.prog 66 #[.pointer (some ⟨g, k, none⟩), .agg #[.int .i64 o.1, .int .i64 o.2.1, .int .i64 o.2.2.1, .int .i64 o.2.2.2]] w fun e w' => AddR w B g k v l o e w' := by
  obtain ⟨A, c, rfl⟩ := own_slice' hr
  have OW := Lib.hid hr
  have H : Hid (RG outc 4 w (.slice A l.length c) l) := Lib.hid (Sl.of_own hr (rowc_one outc_one l))
  have HI := Lib.hid Tryz.info140
  have hgs := World.block_lt_of_cell? w _ hc
  simp only at hgs
  have hgn : ¬ (Value.slice A l.length c).ownBlock = some g := fun e => hg g e rfl
  clear hr hg
  go_enter Tryz.func66, Tryz.ntmps66
  go_wp2_with fail
  obtain ⟨w0, hw0⟩ : ∃ W, W = w.alloc (.cells #[.int .i64 o.1, .int .i64 o.2.1, .int .i64 o.2.2.1, .int .i64 o.2.2.2] 140) := ⟨_, rfl⟩
  obtain ⟨gb, hgb⟩ : ∃ h, h = w.heap.size := ⟨_, rfl⟩
  have BX : Hid (Blk w0 gb #[.int .i64 o.1, .int .i64 o.2.1, .int .i64 o.2.2.1, .int .i64 o.2.2.2] 140) := Lib.hid (by rw [hw0, hgb]; exact Blk.new _ _ _)
  have BW0 : Hid (Below w.heap.size w w0) := Lib.hid (by rw [hw0]; exact (Below.refl _ _).alloc (Nat.le_refl _) _)
  rw [← hw0, ← hgb]
  clear hw0 hgb
  go_loopw [12] (fun i wr => ∃ j : Nat, j ≤ l.length ∧ i = .int .i64 j ∧ Below w0.heap.size w0 wr) (fun i _ => l.length - (intOf i).toNat)
  case atStart => exact ⟨0, Nat.zero_le _, rfl, Below.refl _ _⟩
  case round =>
    obtain ⟨j, hj, rfl, hb⟩ := hrel
    have BR := Lib.hid hb
    have BW := Lib.hid (Below.on' BW0.out (Nat.le_refl _) hb)
    have sr : w.heap.size ≤ wr.heap.size := BW.out.size
    have sr0 : w0.heap.size ≤ wr.heap.size := hb.size
    have bx := BX.out.below hb
    have x0 := bx.cell 0
    have x1 := bx.cell 1
    have x2 := bx.cell 2
    have x3 := bx.cell 3
    simp only [List.getElem?_toArray, List.getElem?_cons_zero, List.getElem?_cons_succ] at x0 x1 x2 x3
    clear hb bx
    by_cases hjl : j < l.length
    · have j0 : (0 : Int) ≤ (j : Int) := by omega
      have j1 : (j : Int) < (l.length : Int) := by omega
      have iwj : IntKind.i64.wrap ((j : Int) + 1) = (j : Int) + 1 := IntWalk.i64_in _ ⟨by omega, by omega⟩
      obtain ⟨ad, rfl, d0, d1, d2, d3⟩ := out_at (H.out.below BW.out) hjl
      obtain ⟨y, hy⟩ : ∃ y, l[j] = y := ⟨_, rfl⟩
      rw [hy] at d0 d1 d2 d3
      clear hy
      obtain ⟨q, hq⟩ : ∃ q, (y.1 == o.1) = q := ⟨_, rfl⟩
      have e0 := cell_in_alloc' x0 (.cells #[.int .i64 y.1, .int .i64 y.2.1, .int .i64 y.2.2.1, .int .i64 y.2.2.2] 140)
      cases q
      · go_wp2_with fail
        go_roundw
        case rel => exact ⟨j + 1, hjl, by go_num, BR.out.alloc sr0 _⟩
        case measure => simp [intOf]; omega
      · go_wp2_with fail
        go_ret
        exact .inl ⟨rfl, BW.out.alloc sr _⟩
    · have j1 : ¬ (j : Int) < (l.length : Int) := by omega
      have cr := (BW.out.cell (p := ⟨g, k, none⟩) hgs).trans hc
      have fr := (BW.out.frozen (p := ⟨g, k, none⟩) hgs).trans hf
      have cra := fun o => cell_in_alloc' cr o
      have crb := fun o => cell_in_alloc' (show wr.drew.cell? ⟨g, k, none⟩ = _ from cr) o
      have OWr : Hid (OG outc 4 140 B wr.drew (.slice A l.length c) l) := Lib.hid (own_frm OW.out (Frm.drew (Frm.of_below (S := fun _ => False) BW.out)) (fun _ _ h => h))
      have hBr : B ≤ wr.drew.heap.size := Nat.le_trans hB sr
      go_wp2_with fail
      first | (go_region_law (first | (refine step_app (v := .slice A l.length c) B (by rfl) _ _ 124 140 _ 4 32 (by rfl) Tryz.underlying124 HI.out rfl (by omega) (by omega) (by rfl) (by rfl) ((OWr.out).alloc _) (Sl.boxk wr.drew 140 4 (outc o) _ (by simp) rfl (outc_one o)) (by omega) (Nat.le_trans hBr (by simp)) ?_; intro v9 w9 hown hfr hat; have F9 : Hid (Frm (fun j => (Value.slice A l.length c).ownBlock = some j) w w9) := Lib.hid ((((Frm.of_below BW.out).drew).alloc _).trans hfr); have O9 := Lib.hid (OG.push (l := l) (a := o) hown); have HA9 := Lib.hid hat; have c9 := (show w9.cell? ⟨g, k, none⟩ = w.cell? ⟨g, k, none⟩ from World.cell?_of_block (F9.out.block g hgs hgn)).trans hc; have f9 := (show w9.frozen? ⟨g, k, none⟩ = w.frozen? ⟨g, k, none⟩ from World.frozen?_of_block (F9.out.block g hgs hgn)).trans hf; obtain ⟨A9, c9_, rfl⟩ := own_slice' hown; clear hown hfr hat) | fail)) | fail
      all_goals
        go_wp2_with fail
        go_ret
        exact .inr ⟨rfl, _, w9, F9.out, rfl, O9.out, HA9.out.imp id (fun h j hj => by rw [h] at hj; injection hj with hj; rw [← hj]; exact Nat.le_trans sr (by simp))⟩
end Go.Proofs.YtdneakejlbabeaaGreat

namespace Go.Proofs.YtdneakejlbabeaaGreat
open Go.RowKit
set_option linter.unusedVariables false
set_option linter.unusedSimpArgs false
attribute [local go_sem] run_max2' run_min2' run_max_ run_min_

structure PathAt (B : Nat) (w : World) (gp gG gW : Nat) (u j b : Bool) (s : Int) (v : Value) (l : List O4) : Prop where
  blk : Blk w gp #[.bool u, .bool j, .bool b, .int .i64 s, .pointer (some ⟨gG, 0, none⟩), .pointer (some ⟨gW, 0, none⟩), v] 128
  g : GOk w gG
  wd : WOk w gW
  l : OG outc 4 140 B w v l
  ne : gp ≠ gG ∧ gp ≠ gW ∧ gG ≠ gW
  own : ∀ j, v.ownBlock = some j → j ≠ gp ∧ j ≠ gG ∧ j ≠ gW
  s0 : 0 ≤ s ∧ s ≤ 65536
  ge : B ≤ gp ∧ B ≤ gG ∧ B ≤ gW
/-- The blocks of a path. -/
def pfp (gp gG gW : Nat) (v : Value) (i : Nat) : Prop := i = gp ∨ i = gG ∨ i = gW ∨ v.ownBlock = some i
section
variable {B : Nat} {w w' wz : World} {gp gG gW : Nat} {u j b b' : Bool} {s s' : Int} {v v' : Value} {l l' : List O4}
theorem PathAt.frm (h : PathAt B w gp gG gW u j b s v l) {T : Nat → Prop} (k : Frm T w w') (hT : ∀ i, pfp gp gG gW v i → ¬ T i) : PathAt B w' gp gG gW u j b s v l :=
  ⟨h.blk.frm k (hT _ (.inl rfl)), h.g.frm k (hT _ (.inr (.inl rfl))), h.wd.frm k (hT _ (.inr (.inr (.inl rfl)))), own_frm h.l k (fun i hi => hT i (.inr (.inr (.inr hi)))), h.ne, h.own, h.s0, h.ge⟩
theorem PathAt.below (h : PathAt B w gp gG gW u j b s v l) (k : Below w.heap.size w w') : PathAt B w' gp gG gW u j b s v l := h.frm (Frm.of_below (S := fun _ => False) k) (fun _ _ h => h)
theorem PathAt.setF (h : PathAt B w gp gG gW u j b s v l) (ho : OG outc 4 140 B w v' l') (hv : ∀ i, v'.ownBlock = some i → i ≠ gp ∧ i ≠ gG ∧ i ≠ gW) : PathAt B (w.setCell ⟨gp, 6, none⟩ v') gp gG gW u j b s v' l' := by
  have f := (Frm.refl (· = gp) w).setg (i := 6) v'
  refine ⟨by simpa using h.blk.set 6 v', h.g.frm f (fun e => h.ne.1 e.symm), h.wd.frm f (fun e => h.ne.2.1 e.symm), own_frm ho f (fun i hi e => (hv i hi).1 e), h.ne, hv, h.s0, h.ge⟩
theorem PathAt.setS (h : PathAt B w gp gG gW u j b s v l) (hs : 0 ≤ s' ∧ s' ≤ 65536) : PathAt B (w.setCell ⟨gp, 3, none⟩ (.int .i64 s')) gp gG gW u j b s' v l := by
  have f := (Frm.refl (· = gp) w).setg (i := 3) (.int .i64 s')
  refine ⟨by simpa using h.blk.set 3 (.int .i64 s'), h.g.frm f (fun e => h.ne.1 e.symm), h.wd.frm f (fun e => h.ne.2.1 e.symm), own_frm h.l f (fun i hi e => (h.own i hi).1 e), h.ne, h.own, hs, h.ge⟩
theorem PathAt.setB (h : PathAt B w gp gG gW u j b s v l) : PathAt B (w.setCell ⟨gp, 2, none⟩ (.bool b')) gp gG gW u j b' s v l := by
  have f := (Frm.refl (· = gp) w).setg (i := 2) (.bool b')
  refine ⟨by simpa using h.blk.set 2 (.bool b'), h.g.frm f (fun e => h.ne.1 e.symm), h.wd.frm f (fun e => h.ne.2.1 e.symm), own_frm h.l f (fun i hi e => (h.own i hi).1 e), h.ne, h.own, h.s0, h.ge⟩
theorem PathAt.setU (h : PathAt B w gp gG gW u j b s v l) : PathAt B (w.setCell ⟨gp, 0, none⟩ (.bool b')) gp gG gW b' j b s v l := by
  have f := (Frm.refl (· = gp) w).setg (i := 0) (.bool b')
  refine ⟨by simpa using h.blk.set 0 (.bool b'), h.g.frm f (fun e => h.ne.1 e.symm), h.wd.frm f (fun e => h.ne.2.1 e.symm), own_frm h.l f (fun i hi e => (h.own i hi).1 e), h.ne, h.own, h.s0, h.ge⟩
theorem PathAt.setJ (h : PathAt B w gp gG gW u j b s v l) : PathAt B (w.setCell ⟨gp, 1, none⟩ (.bool b')) gp gG gW u b' b s v l := by
  have f := (Frm.refl (· = gp) w).setg (i := 1) (.bool b')
  refine ⟨by simpa using h.blk.set 1 (.bool b'), h.g.frm f (fun e => h.ne.1 e.symm), h.wd.frm f (fun e => h.ne.2.1 e.symm), own_frm h.l f (fun i hi e => (h.own i hi).1 e), h.ne, h.own, h.s0, h.ge⟩
theorem PathAt.setG (h : PathAt B w gp gG gW u j b s v l) (hg : GOk w' gG) (f : Frm (· = gG) w w') : PathAt B w' gp gG gW u j b s v l :=
  ⟨h.blk.frm f (fun e => h.ne.1 e), hg, h.wd.frm f (fun e => h.ne.2.2 e.symm), own_frm h.l f (fun i hi e => (h.own i hi).2.1 e), h.ne, h.own, h.s0, h.ge⟩
theorem PathAt.setW (h : PathAt B w gp gG gW u j b s v l) (hg : WOk w' gW) (f : Frm (· = gW) w w') : PathAt B w' gp gG gW u j b s v l :=
  ⟨h.blk.frm f (fun e => h.ne.2.1 e), h.g.frm f (fun e => h.ne.2.2 e), hg, own_frm h.l f (fun i hi e => (h.own i hi).2.2 e), h.ne, h.own, h.s0, h.ge⟩
end
/-- Late packets: what is handed on, what is left. -/
def PLateR (B : Nat) (w : World) (gp gG gW : Nat) (u j : Bool) (s : Int) (v : Value) (l : List O4) (e : Ending) (w' : World) : Prop :=
  ∃ v1 v2 b' l1 l2, e = .returned v1 ∧ RG outc 4 w' v1 l1 ∧ (∀ i, v1.ownBlock = some i → w.heap.size ≤ i ∧ ¬ pfp gp gG gW v2 i) ∧ PathAt B w' gp gG gW u j b' s v2 l2 ∧ (∀ o, o ∈ l1 ∨ o ∈ l2 → o ∈ l) ∧ l1.length ≤ l.length ∧ l2.length ≤ l.length ∧ Mv (pfp gp gG gW v) (pfp gp gG gW v2) w w'
set_option maxHeartbeats 8000000 in
set_option maxRecDepth 100000 in
theorem plate_any (B : Nat) (w : World) (gp gG gW : Nat) (u j b : Bool) (s : Int) (v : Value) (l : List O4) (now : Int) (h : PathAt B w gp gG gW u j b s v l) (hB : B ≤ w.heap.size) (hl : l.length ≤ 100000000) :
    Calls Tryz.prog 61 #[.pointer (some ⟨gp, 0, none⟩), .int .i64 now] w fun e w' => PLateR B w gp gG gW u j s v l e w' := by
  obtain ⟨A, c, rfl⟩ := own_slice' h.l
  have H := Lib.hid h
  have c4 := h.blk.cell 4
  simp only [List.getElem?_toArray, List.getElem?_cons_zero, List.getElem?_cons_succ] at c4
  have KE : Hid (∀ W, Below w.heap.size w W → W.cell? ⟨gp, 4, none⟩ = some (.pointer (some ⟨gG, 0, none⟩))) := Lib.hid (fun W hW => (H.out.blk.below hW).cell 4)
  have G : Hid (Below w.heap.size w w.drew) := Lib.hid (Below.refl _ _).drew
  clear h
  go_enter Tryz.func61, Tryz.ntmps61
  go_wp2_with fail
  first | (go_region_held3 (fun w' => w'.cell? ⟨gp, 4, none⟩ = some (.pointer (some ⟨gG, 0, none⟩))) (first | with_reducible exact KE.out _ G.out | with_reducible exact K2.out | go_keep) (first
    | (go_at_call 87; (with_reducible refine (wait_any gG _ (H.out.below G.out).g).mono ?_); rintro e w1 ⟨z, rfl, hb1⟩; have g_ := Below.trans G.out (hb1.mono G.out.size); clear G hb1; have G := Lib.hid g_; clear g_)
    | (go_at_call 86; (with_reducible refine (flate_any _ gp 6 _ l now z ((H.out.below G.out).blk.cell 6) ((H.out.below G.out).blk.free 6) (Sl.of_own (H.out.below G.out).l (rowc_one outc_one l)) hl).mono ?_); rintro e w2 ⟨v1, v2, wz, rfl, hbz, rfl, ho1, ho2, hap⟩; have hbw := Below.trans G.out (hbz.mono G.out.size); have K2 : Hid ((wz.setCell ⟨gp, 6, none⟩ v2).cell? ⟨gp, 4, none⟩ = some (.pointer (some ⟨gG, 0, none⟩))) := Lib.hid (((H.out.below hbw).blk.set 6 v2).cell 4); have HZ := Lib.hid hbw; have H1 := Lib.hid ho1; have H2 := Lib.hid ho2; have HAP := Lib.hid hap; have sG := G.out.size; obtain ⟨A1, c1_, rfl⟩ := own_slice' ho1; clear hbz ho1 ho2 hap hbw))) | fail
  obtain ⟨zz, hzz⟩ : ∃ x, IntKind.i64.wrap (now - z) = x := ⟨_, rfl⟩
  rw [hzz] at H1 H2 HAP
  rw [hzz]
  obtain ⟨la, hla⟩ : ∃ x, lates zz l = x := ⟨_, rfl⟩
  have hm : (∀ o, o ∈ la ∨ o ∈ stays zz l → o ∈ l) := fun o ho => by
    rcases ho with ho | ho
    · rw [← hla] at ho; exact (List.mem_filter.1 ho).1
    · exact (List.mem_filter.1 ho).1
  have hl1 : la.length ≤ l.length := by rw [← hla]; exact List.length_filter_le _ _
  have hl2 : (stays zz l).length ≤ l.length := List.length_filter_le _ _
  have HM := Lib.hid hm
  rw [hla] at H1 HAP
  rw [hla]
  clear hm hla hzz
  have pl := H.out.blk.lt
  have gl := H.out.g.lt
  have wl := H.out.wd.lt
  have hv2 : ∀ i, v2.ownBlock = some i → i ≠ gp ∧ i ≠ gG ∧ i ≠ gW := fun i hi => by have := (H2.out.lt i hi).1; omega
  have P2 := Lib.hid ((H.out.below HZ.out).setF (own_base H2.out (by omega : B ≤ w1.heap.size)) hv2)
  have R1 : Hid (RG outc 4 (wz.setCell ⟨gp, 6, none⟩ v2) (.slice A1 la.length c1_) la) := Lib.hid ((Sl.of_own H1.out (rowc_one outc_one la)).frm ((Frm.refl (· = gp) wz).setg (i := 6) v2) (fun i hi e => by have := (H1.out.lt i hi).1; omega))
  have M2 : Hid (Mv (pfp gp gG gW (.slice A l.length c)) (pfp gp gG gW v2) w (wz.setCell ⟨gp, 6, none⟩ v2)) := Lib.hid ⟨(Frm.of_below HZ.out).setCell (.inl (.inl rfl)) _, fun i hi => by
    rcases hi with hi | hi | hi | hi
    · exact .inl (.inl hi)
    · exact .inl (.inr (.inl hi))
    · exact .inl (.inr (.inr (.inl hi)))
    · exact .inr (by have := (H2.out.lt i hi).1; omega)⟩
  have hown1 : ∀ i, (Value.slice A1 la.length c1_).ownBlock = some i → w.heap.size ≤ i ∧ ¬ pfp gp gG gW v2 i := fun i hi => by
    have h1 := (H1.out.lt i hi).1
    refine ⟨by omega, fun hp => ?_⟩
    rcases hp with hp | hp | hp | hp
    · omega
    · omega
    · omega
    · exact HAP.out i hi hp
  have OW1 := Lib.hid hown1
  obtain ⟨W2, hW2⟩ : ∃ W, W = wz.setCell ⟨gp, 6, none⟩ v2 := ⟨_, rfl⟩
  rw [← hW2] at P2 R1 M2
  rw [← hW2]
  clear hown1 hv2 hW2 H1 H2 HZ HAP K2 G
  have e4 := P2.out.blk.cell 4
  have e5 := P2.out.blk.cell 5
  simp only [List.getElem?_toArray, List.getElem?_cons_zero, List.getElem?_cons_succ] at e4 e5
  by_cases h0 : (0 : Int) < (la.length : Int)
  · go_wp2_with fail
    refine (glate_any gG W2 P2.out.g).mono ?_
    rintro e w3 ⟨rfl, hg3, hf3⟩
    have P3 := Lib.hid (P2.out.setG hg3 hf3)
    have R3 : Hid (RG outc 4 w3 (.slice A1 la.length c1_) la) := Lib.hid (R1.out.frm hf3 (fun i hi e => by have := (OW1.out i hi).1; omega))
    have M3 := Lib.hid (Mv.trans M2.out (⟨hf3.mono (fun i hi => .inr (.inl hi)), fun i hi => .inl hi⟩ : Mv (pfp gp gG gW v2) (pfp gp gG gW v2) W2 w3))
    have e5' := P3.out.blk.cell 5
    simp only [List.getElem?_toArray, List.getElem?_cons_zero, List.getElem?_cons_succ] at e5'
    clear hg3 hf3
    go_wp2_with fail
    refine (loss_any gW w3 P3.out.wd).mono ?_
    rintro e w4 ⟨rfl, hg4, hf4⟩
    have P4 := Lib.hid (P3.out.setW hg4 hf4)
    have R4 : Hid (RG outc 4 w4 (.slice A1 la.length c1_) la) := Lib.hid (R3.out.frm hf4 (fun i hi e => by have := (OW1.out i hi).1; omega))
    have M4 := Lib.hid (Mv.trans M3.out (⟨hf4.mono (fun i hi => .inr (.inr (.inl hi))), fun i hi => .inl hi⟩ : Mv (pfp gp gG gW v2) (pfp gp gG gW v2) w3 w4))
    have e2 := P4.out.blk.cell 2
    have e2f := P4.out.blk.free 2
    simp only [List.getElem?_toArray, List.getElem?_cons_zero, List.getElem?_cons_succ] at e2
    clear hg4 hf4
    go_wp2_with fail
    go_ret
    exact ⟨_, _, true, la, _, rfl, R4.out.frm ((Frm.refl (· = gp) w4).setg (i := 2) (.bool true)) (fun i hi e => by have := (OW1.out i hi).1; omega), OW1.out, P4.out.setB, HM.out, hl1, hl2, Mv.trans M4.out (⟨((Frm.refl (· = gp) w4).setg (i := 2) (.bool true)).mono (fun i hi => .inl hi), fun i hi => .inl hi⟩)⟩
  · go_wp2_with fail
    go_ret
    exact ⟨_, _, b, la, _, rfl, R1.out, OW1.out, P2.out, HM.out, hl1, hl2, M2.out⟩
end Go.Proofs.YtdneakejlbabeaaGreat

namespace Go.Proofs.YtdneakejlbabeaaGreat
open Go.RowKit
set_option linter.unusedVariables false
set_option linter.unusedSimpArgs false
attribute [local go_sem] run_max2' run_min2' run_max_ run_min_

set_option maxHeartbeats 4000000 in
set_option maxRecDepth 100000 in
theorem sample_any (g : Nat) (n : Int) (w : World) (h : GOk w g) : Calls Tryz.prog 107 #[.pointer (some ⟨g, 0, none⟩), .int .i64 n] w fun e w' => e = .returned (.tuple #[]) ∧ GOk w' g ∧ Frm (· = g) w w' := by
  have H := Lib.hid h
  obtain ⟨a, b, c, d, s, hb, hd0, hd1, hm0, hm1⟩ := h
  have c1 := hb.cell 1
  have c2 := hb.cell 2
  have c4 := hb.cell 4
  have c3 := hb.cell 3
  have f1 := hb.free 1
  have f2 := hb.free 2
  have f3 := hb.free 3
  have f4 := hb.free 4
  simp at c1 c2 c3 c4
  clear hb hd0 hd1
  obtain ⟨z, hz⟩ : ∃ z, mn (mx n 0) 1048576 = z := ⟨_, rfl⟩
  have HZ := Lib.hid hz
  have zb : Hid (0 ≤ z ∧ z ≤ 1048576) := Lib.hid (by rw [← hz]; unfold mn mx; split <;> split <;> omega)
  clear hz
  cases s
  · clear hm0 hm1
    obtain ⟨y, hy⟩ : ∃ y, IntKind.i64.wrap (z.tdiv 2) = y := ⟨_, rfl⟩
    go_enter Tryz.func107, Tryz.ntmps107
    go_wp2_with fail
    refine (clamp_any _ _ _ _).mono ?_
    rintro e _ ⟨rfl, rfl⟩
    rw [HZ.out]
    go_wp2_with fail
    refine bodyPost_ret (results_none rfl _ _ _) rfl ?_
    exact ⟨rfl, by repeat (first | with_reducible exact H.out | with_reducible refine GOk.s1 ?_ zb.out | with_reducible apply GOk.s2 | with_reducible apply GOk.s4 | with_reducible exact GOk.s3 H.out ⟨by omega, by omega⟩), by repeat (first | with_reducible exact Frm.refl _ _ | with_reducible apply Frm.setg)⟩
  · obtain ⟨x, hx⟩ : ∃ x, IntKind.i64.wrap (b - z) = x := ⟨_, rfl⟩
    obtain ⟨nx, hnx⟩ : ∃ y, IntKind.i64.wrap (-x) = y := ⟨_, rfl⟩
    obtain ⟨k3, hk3⟩ : ∃ y, IntKind.i64.wrap (3 * c) = y := ⟨_, rfl⟩
    obtain ⟨k7, hk7⟩ : ∃ y, IntKind.i64.wrap (7 * b) = y := ⟨_, rfl⟩
    obtain ⟨m7, hm7⟩ : ∃ y, IntKind.i64.wrap (k7 + z) = y := ⟨_, rfl⟩
    obtain ⟨q7, hq7⟩ : ∃ y, IntKind.i64.wrap (m7.tdiv 8) = y := ⟨_, rfl⟩
    have qb : Hid (0 ≤ q7 ∧ q7 ≤ 1048576) := Lib.hid (by
      obtain ⟨z0, z1⟩ := zb.out
      have e7 : k7 = 7 * b := hk7.symm.trans (IntWalk.i64_in _ ⟨by omega, by omega⟩)
      have em : m7 = k7 + z := hm7.symm.trans (IntWalk.i64_in _ ⟨by omega, by omega⟩)
      have ed : m7.tdiv 8 = m7 / 8 := Int.tdiv_eq_ediv_of_nonneg (by omega)
      have eq : q7 = m7 / 8 := by rw [← hq7, ed]; exact IntWalk.i64_in _ ⟨by omega, by omega⟩
      omega)
    clear hm0 hm1
    by_cases hlt : x < 0
    · obtain ⟨m3, hm3⟩ : ∃ y, IntKind.i64.wrap (k3 + nx) = y := ⟨_, rfl⟩
      obtain ⟨q3, hq3⟩ : ∃ y, IntKind.i64.wrap (m3.tdiv 4) = y := ⟨_, rfl⟩
      go_enter Tryz.func107, Tryz.ntmps107
      go_wp2_with fail
      refine (clamp_any _ _ _ _).mono ?_
      rintro e _ ⟨rfl, rfl⟩
      rw [HZ.out]
      go_wp2_with fail
      go_end0
      exact ⟨rfl, by repeat (first | with_reducible exact H.out | with_reducible refine GOk.s1 ?_ qb.out | with_reducible apply GOk.s2 | with_reducible apply GOk.s4 | with_reducible exact GOk.s3 H.out ⟨by omega, by omega⟩), by repeat (first | with_reducible exact Frm.refl _ _ | with_reducible apply Frm.setg)⟩
    · obtain ⟨m3, hm3⟩ : ∃ y, IntKind.i64.wrap (k3 + x) = y := ⟨_, rfl⟩
      obtain ⟨q3, hq3⟩ : ∃ y, IntKind.i64.wrap (m3.tdiv 4) = y := ⟨_, rfl⟩
      go_enter Tryz.func107, Tryz.ntmps107
      go_wp2_with fail
      refine (clamp_any _ _ _ _).mono ?_
      rintro e _ ⟨rfl, rfl⟩
      rw [HZ.out]
      go_wp2_with fail
      go_end0
      exact ⟨rfl, by repeat (first | with_reducible exact H.out | with_reducible refine GOk.s1 ?_ qb.out | with_reducible apply GOk.s2 | with_reducible apply GOk.s4 | with_reducible exact GOk.s3 H.out ⟨by omega, by omega⟩), by repeat (first | with_reducible exact Frm.refl _ _ | with_reducible apply Frm.setg)⟩
end Go.Proofs.YtdneakejlbabeaaGreat
