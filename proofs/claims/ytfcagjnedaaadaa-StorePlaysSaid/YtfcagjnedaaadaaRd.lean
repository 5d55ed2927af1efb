/- The reference's Sync, Cut and Drop where they stop. -/
import Derived.Test.YtfcagjnedaaadaaRc
namespace Go.Proofs.Ytfcagjnedaaadaa
open Go.RowKit
attribute [local go_sem] run_max2 run_min2 run_max_ run_min_

theorem RSt.blown {w : World} {g : Nat} {S : Nat → Prop} {base L : Nat} {v : Value} {l : List (Int × Bk)} {dead : Bool} (h : RSt w g S base L v l dead true 0) : RSt (w.setCell ⟨g, 1, none⟩ (.bool true)) g S base L v l true true 0 := by
  obtain ⟨vs, hb, ho, hvl, hv, hav⟩ := h.blk
  have hf := (Frm.refl (· = g) w).setg (i := 1) (.bool true)
  refine ⟨⟨vs, ?_, own_frm ho hf (fun j hj e => (hav j hj).1 e), hvl, fun i x u hi hu => (hv i x u hi hu).frm hf (fun j hj e => h.av j hj e), hav⟩, h.base, h.av⟩
  have := hb.set 1 (.bool true)
  simpa using this

set_option maxRecDepth 100000 in
theorem rsync_err (w : World) (g : Nat) (S : Nat → Prop) (base L : Nat) (v : Value) (l : List (Int × Bk)) (dead armed : Bool) (N : Int) (h : RSt w g S base L v l dead armed N) (hl : l.length ≤ 1000) (n : Int) (i e0 : Int) (hb0 : begI l dead n = (i, e0)) (he : ¬ e0 = 0) :
    Calls Try.prog 23 #[.pointer (some ⟨g, 0, none⟩), .int .i64 n] w fun e w' => e = .returned (.int .i64 e0) ∧ w = w' := by
  have H := Lib.hid h
  have he1 : (e0 == 0) = false := by simpa using he
  clear h
  go_enter Try.func23, Try.ntmps23
  go_wp2_with fail
  refine (begin_any w g S base L v l dead armed N H.out hl n _ _ hb0).mono ?_
  rintro e _ ⟨rfl, rfl⟩
  go_wp2_with fail
  go_ret
  exact ⟨rfl, rfl⟩

set_option maxRecDepth 100000 in
theorem rsync_fuse (w : World) (g : Nat) (S : Nat → Prop) (base L : Nat) (v : Value) (l : List (Int × Bk)) (dead : Bool) (h : RSt w g S base L v l dead true 0) (hl : l.length ≤ 1000) (n i : Int) (hb0 : begI l dead n = (i, 0)) :
    Calls Try.prog 23 #[.pointer (some ⟨g, 0, none⟩), .int .i64 n] w fun e w' => e = .returned (.int .i64 6) ∧ RSt w' g S base L v l true true 0 ∧ Frm (· = g) w w' := by
  have H := Lib.hid h
  obtain ⟨vs, hb, _⟩ := h.blk
  have HB := Lib.hid hb
  have HN := Lib.hid h.blown
  clear h hb
  go_enter Try.func23, Try.ntmps23
  go_wp2_with fail
  refine (begin_any w g S base L v l dead true 0 H.out hl n _ _ hb0).mono ?_
  rintro e _ ⟨rfl, rfl⟩
  go_wp2_with fail
  refine (stops_fuse w g v dead HB.out).mono ?_
  rintro e _ ⟨rfl, rfl⟩
  go_wp2_with fail
  go_ret
  exact ⟨rfl, HN.out, (Frm.refl (· = g) w).setg _⟩

set_option maxRecDepth 100000 in
theorem rdrop_err (w : World) (g : Nat) (S : Nat → Prop) (base L : Nat) (v : Value) (l : List (Int × Bk)) (dead armed : Bool) (N : Int) (h : RSt w g S base L v l dead armed N) (hl : l.length ≤ 1000) (n : Int) (i e0 : Int) (hb0 : begI l dead n = (i, e0)) (he : ¬ e0 = 0) :
    Calls Try.prog 25 #[.pointer (some ⟨g, 0, none⟩), .int .i64 n] w fun e w' => e = .returned (.int .i64 e0) ∧ w = w' := by
  have H := Lib.hid h
  have he1 : (e0 == 0) = false := by simpa using he
  clear h
  go_enter Try.func25, Try.ntmps25
  go_wp2_with fail
  refine (begin_any w g S base L v l dead armed N H.out hl n _ _ hb0).mono ?_
  rintro e _ ⟨rfl, rfl⟩
  go_wp2_with fail
  go_ret
  exact ⟨rfl, rfl⟩

set_option maxRecDepth 100000 in
theorem rdrop_fuse (w : World) (g : Nat) (S : Nat → Prop) (base L : Nat) (v : Value) (l : List (Int × Bk)) (dead : Bool) (h : RSt w g S base L v l dead true 0) (hl : l.length ≤ 1000) (n i : Int) (hb0 : begI l dead n = (i, 0)) :
    Calls Try.prog 25 #[.pointer (some ⟨g, 0, none⟩), .int .i64 n] w fun e w' => e = .returned (.int .i64 6) ∧ RSt w' g S base L v l true true 0 ∧ Frm (· = g) w w' := by
  have H := Lib.hid h
  obtain ⟨vs, hb, _⟩ := h.blk
  have HB := Lib.hid hb
  have HN := Lib.hid h.blown
  clear h hb
  go_enter Try.func25, Try.ntmps25
  go_wp2_with fail
  refine (begin_any w g S base L v l dead true 0 H.out hl n _ _ hb0).mono ?_
  rintro e _ ⟨rfl, rfl⟩
  go_wp2_with fail
  refine (stops_fuse w g v dead HB.out).mono ?_
  rintro e _ ⟨rfl, rfl⟩
  go_wp2_with fail
  go_ret
  exact ⟨rfl, HN.out, (Frm.refl (· = g) w).setg _⟩

set_option maxRecDepth 100000 in
theorem rcut_err (w : World) (g : Nat) (S : Nat → Prop) (base L : Nat) (v : Value) (l : List (Int × Bk)) (dead armed : Bool) (N : Int) (h : RSt w g S base L v l dead armed N) (hl : l.length ≤ 1000) (n : Int) (to : Int) (i e0 : Int) (hb0 : begI l dead n = (i, e0)) (he : ¬ e0 = 0) :
    Calls Try.prog 24 #[.pointer (some ⟨g, 0, none⟩), .int .i64 n, .int .i64 to] w fun e w' => e = .returned (.int .i64 e0) ∧ w = w' := by
  have H := Lib.hid h
  have he1 : (e0 == 0) = false := by simpa using he
  clear h
  go_enter Try.func24, Try.ntmps24
  go_wp2_with fail
  refine (begin_any w g S base L v l dead armed N H.out hl n _ _ hb0).mono ?_
  rintro e _ ⟨rfl, rfl⟩
  go_wp2_with fail
  go_ret
  exact ⟨rfl, rfl⟩

set_option maxRecDepth 100000 in
theorem rcut_arg (w : World) (g : Nat) (S : Nat → Prop) (base L : Nat) (v : Value) (l : List (Int × Bk)) (dead : Bool) (armed : Bool) (N : Int) (h : RSt w g S base L v l dead armed N) (hl : l.length ≤ 1000) (n to : Int) (k : Nat) (x : Int × Bk) (hb0 : begI l dead n = ((k : Int), 0)) (hx : l[k]? = some x) (hto : to < 0 ∨ (x.2.1.length : Int) < to) :
    Calls Try.prog 24 #[.pointer (some ⟨g, 0, none⟩), .int .i64 n, .int .i64 to] w fun e w' => e = .returned (.int .i64 1) ∧ w = w' := by
  have H := Lib.hid h
  obtain ⟨vs, hb, ho, hvl, hv, hav⟩ := h.blk
  have hat : k < l.length := (List.getElem?_eq_some_iff.1 hx).1
  obtain ⟨ga, ca, rfl, hga⟩ := own_form ho (by omega)
  obtain ⟨u, hu⟩ : ∃ u, vs[k]? = some u := ⟨_, List.getElem?_eq_getElem (by omega)⟩
  obtain ⟨Bx, bx, hub, hrb⟩ := hv k x u hx hu
  subst hub
  obtain ⟨y0, y1, y2, y3⟩ := rcell_at ho hat hx hu
  obtain ⟨xl, hxl⟩ : ∃ m, x.2.1.length = m := ⟨_, rfl⟩
  rw [hxl] at y1 hto
  have cg := hb.cell 0
  simp at cg
  have k1 : (k : Int) < (l.length : Int) := by omega
  have k0 : (0 : Int) ≤ (k : Int) := by omega
  have HB := Lib.hid hb
  clear ho hv hav hb h hx hu hxl hrb
  by_cases h0 : to < 0
  · go_enter Try.func24, Try.ntmps24
    go_wp2_with fail
    refine (begin_any w g S base L _ l dead armed N H.out hl n _ _ hb0).mono ?_
    rintro e _ ⟨rfl, rfl⟩
    go_wp2_with fail
    go_ret
    exact ⟨rfl, rfl⟩
  · have h1 : (xl : Int) < to := hto.resolve_left h0
    go_enter Try.func24, Try.ntmps24
    go_wp2_with fail
    refine (begin_any w g S base L _ l dead armed N H.out hl n _ _ hb0).mono ?_
    rintro e _ ⟨rfl, rfl⟩
    go_wp2_with fail
    go_ret
    exact ⟨rfl, rfl⟩

set_option maxRecDepth 100000 in
theorem rcut_fuse (w : World) (g : Nat) (S : Nat → Prop) (base L : Nat) (v : Value) (l : List (Int × Bk)) (dead : Bool)  (h : RSt w g S base L v l dead true 0) (hl : l.length ≤ 1000) (n to : Int) (k : Nat) (x : Int × Bk) (hb0 : begI l dead n = ((k : Int), 0)) (hx : l[k]? = some x) (hto : 0 ≤ to ∧ to ≤ (x.2.1.length : Int)) :
    Calls Try.prog 24 #[.pointer (some ⟨g, 0, none⟩), .int .i64 n, .int .i64 to] w fun e w' => e = .returned (.int .i64 6) ∧ RSt w' g S base L v l true true 0 ∧ Frm (· = g) w w' := by
  have H := Lib.hid h
  obtain ⟨vs, hb, ho, hvl, hv, hav⟩ := h.blk
  have hat : k < l.length := (List.getElem?_eq_some_iff.1 hx).1
  obtain ⟨ga, ca, rfl, hga⟩ := own_form ho (by omega)
  obtain ⟨u, hu⟩ : ∃ u, vs[k]? = some u := ⟨_, List.getElem?_eq_getElem (by omega)⟩
  obtain ⟨Bx, bx, hub, hrb⟩ := hv k x u hx hu
  subst hub
  obtain ⟨y0, y1, y2, y3⟩ := rcell_at ho hat hx hu
  obtain ⟨xl, hxl⟩ : ∃ m, x.2.1.length = m := ⟨_, rfl⟩
  rw [hxl] at y1 hto
  have cg := hb.cell 0
  simp at cg
  have k1 : (k : Int) < (l.length : Int) := by omega
  have k0 : (0 : Int) ≤ (k : Int) := by omega
  have HB := Lib.hid hb
  have HN := Lib.hid h.blown
  clear ho hv hav hb h hx hu hxl hrb
  have h0 : ¬ to < 0 := by omega
  have h1 : ¬ (xl : Int) < to := by omega
  go_enter Try.func24, Try.ntmps24
  go_wp2_with fail
  refine (begin_any w g S base L _ l dead true 0 H.out hl n _ _ hb0).mono ?_
  rintro e _ ⟨rfl, rfl⟩
  go_wp2_with fail
  refine (stops_fuse w g _ dead HB.out).mono ?_
  rintro e _ ⟨rfl, rfl⟩
  go_wp2_with fail
  go_ret
  exact ⟨rfl, HN.out, (Frm.refl (· = g) w).setg _⟩
end Go.Proofs.Ytfcagjnedaaadaa
