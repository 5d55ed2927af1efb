/- Parts of the walk: Uc, Ud. -/
import Derived.Deep.QuietTactic
import Derived.Test.YtdneakejlbabeaaGreatM25
import Derived.Deep.RegionLaw
namespace Go.Proofs.YtdneakejlbabeaaGreat
open Go.RowKit
set_option linter.unusedVariables false
set_option linter.unusedSimpArgs false

/-- What a step leaves. -/
def DuR (o : Nat → Nat) (B : Nat) (w : World) (gd N : Nat) (w' : World) : Prop :=
  ∃ (o' : Nat → Nat) (d' : DuV) (wl' : List (Int × Ev)), DuS o' B w' gd d' ∧ Stp DC o o' w w' ∧ DInv (fun _ => N + 500000) d' wl'
def DoR (o : Nat → Nat) (B : Nat) (w : World) (gd N : Nat) (d : DuV) (wl : List (Int × Ev)) (e : Ending) (w' : World) : Prop :=
  ∃ q : Bool, e = .returned (.bool q) ∧ DuR o B w gd N w'
theorem EC_DC (s : Bool) : ∀ c, EC (kk s) c → DC c := fun c hc => by
  have h1 := hc.1
  have h2 := hc.2
  have := kk_cases s
  exact ⟨by omega, by omega⟩
theorem DuR.act {o o1 o' : Nat → Nat} {B : Nat} {w w1 w' : World} {gd N : Nat} {d : DuV} {wl : List (Int × Ev)} {s : Bool} {x' : EndV} {es : List Ev} (hN : N + 500000 ≤ 40000000) (st : Stp DC o o1 w w1) (h : DuS o1 B w1 gd d) (hi : DInv (fun _ => N) d wl) (hx : EndS o' (kk s) B w' (d.ge s) x') (st2 : Stp (EC (kk s)) o1 o' w1 w') (ha : Act (N + 500000) (d.x s) x' es) (hc : ∀ e ∈ es, e.kind = 4 → e.pk ∈ sents (d.x (!s)).es) : DuR o B w gd N w' :=
  ⟨o', _, _, h.putE hx st2, st.trans (st2.mono (EC_DC s)), (hi.act ha hc).upN (fun t => by
    by_cases ht : t = s
    · subst ht; rw [up_same]; exact ⟨Nat.le_refl _, hN⟩
    · rw [up_other _ _ ht]; exact ⟨by omega, hN⟩)⟩
theorem DuR.call {o o1 : Nat → Nat} {B : Nat} {w w1 w' : World} {gd N : Nat} {d : DuV} {wl : List (Int × Ev)} {s : Bool} (hN : N + 500000 ≤ 40000000) (st : Stp (fun _ => False) o o1 w w1) (h : DuS o1 B w1 gd d) (hi : DInv (fun _ => N) d wl) (hc : CallR o1 (kk s) B N w1 (d.ge s) (d.x s) w') : DuR o B w gd N w' := by
  obtain ⟨o', x', es, hx, st2, ha, h4⟩ := hc
  exact DuR.act hN (st.mono (fun _ h => h.elim)) h hi hx st2 ha (fun e he h => absurd h (h4 e he))
theorem DuR.rest {o o1 : Nat → Nat} {B : Nat} {w w' : World} {gd N : Nat} {d : DuV} {wl : List (Int × Ev)} (hN : N + 500000 ≤ 40000000) (st : Stp DC o o1 w w') (h : DuS o1 B w' gd d) (hi : DInv (fun _ => N) d wl) : DuR o B w gd N w' :=
  ⟨o1, d, wl, h, st, hi.upN (fun _ => ⟨by omega, hN⟩)⟩
set_option maxHeartbeats 16000000 in
set_option maxRecDepth 100000 in
theorem do_k1 (o : Nat → Nat) (B : Nat) (w : World) (gd N : Nat) (d : DuV) (wl : List (Int × Ev)) (s : Bool) (n bit mask : Int) (v : Value) (l : List Int) (h : DuS o B w gd d) (hi : DInv (fun _ => N) d wl) (hN : N + 500000 ≤ 40000000) (hB : B ≤ w.heap.size) (hv : BV w (frozen o) v l) (hl : l.length ≤ 1000000) :
    Calls Tryz.prog 31 #[.pointer (some ⟨gd, 0, none⟩), .agg #[.int .i64 1, .int .i64 (sI s), .int .i64 n, .int .i64 bit, .int .u32 mask, v]] w fun e w' => DoR o B w gd N d wl e w' := by
  obtain ⟨Av, cv, rfl, _, _⟩ := hv.len
  obtain ⟨w0, hw0⟩ : ∃ W, W = w.alloc (.cells #[.int .i64 1, .int .i64 (sI s), .int .i64 n, .int .i64 bit, .int .u32 mask, .slice Av l.length cv] 61) := ⟨_, rfl⟩
  obtain ⟨gs, hgs⟩ : ∃ h, h = w.heap.size := ⟨_, rfl⟩
  have B0 : Hid (Below w.heap.size w w0) := Lib.hid (by rw [hw0]; exact (Below.refl _ _).alloc (Nat.le_refl _) _)
  have BX : Hid (Blk w0 gs #[.int .i64 1, .int .i64 (sI s), .int .i64 n, .int .i64 bit, .int .u32 mask, .slice Av l.length cv] 61) := Lib.hid (by rw [hw0, hgs]; exact Blk.new _ _ _)
  have S0 : Hid (Stp (fun _ => False) o (scr o w.heap.size 0) w w0) := Lib.hid ⟨Frm.of_below B0.out, scr_agr _ _ _⟩
  have og : scr o w.heap.size 0 gs = 0 := by rw [hgs]; exact scr_new (Nat.le_refl _)
  obtain ⟨o0, ho0⟩ : ∃ f, f = scr o w.heap.size 0 := ⟨_, rfl⟩
  rw [← ho0] at S0 og
  have H0 := Lib.hid (h.frm S0.out (fun h => h) (fun _ h => h.elim))
  have V0 : Hid (BV w0 (frozen o0) (.slice Av l.length cv) l) := Lib.hid (BV.stpK hv S0.out (fun h => h))
  have IV := Lib.hid hi
  have hw0' := hw0.symm
  have hgs' := hgs.symm
  have sB : B ≤ w0.heap.size := Nat.le_trans hB B0.out.size
  have k0 := BX.out.cell 0
  have k1 := BX.out.cell 1
  have k2 := BX.out.cell 2
  have k3 := BX.out.cell 3
  have k4 := BX.out.cell 4
  have k5 := BX.out.cell 5
  have n0 := H0.out.blk.cell 0
  have n1 := H0.out.blk.cell 1
  simp only [List.getElem?_toArray, List.getElem?_cons_zero, List.getElem?_cons_succ] at k0 k1 k2 k3 k4 k5 n0 n1
  clear h hi hv hw0 hgs ho0
  cases s
  case false =>
    have e0 : sI false = 0 := rfl
    rw [e0] at hw0' k1 BX ⊢
    clear e0
    go_enter Tryz.func31, Tryz.ntmps31
    go_wp2_with fail
    clear hw0' hgs'
    go_quiet (fail)
    obtain ⟨wb, hwb⟩ : ∃ W, W = w0.drewN nq := ⟨_, rfl⟩
    rw [← hwb]
    have GB : Hid (Below w0.heap.size w0 wb) := Lib.hid (by rw [hwb]; exact below_drewN (Below.refl _ _) _)
    have SB : Hid (Stp (fun _ => False) o o0 w wb) := Lib.hid (S0.out.trans (Stp.below GB.out))
    have HD := Lib.hid (H0.out.below GB.out)
    have VB := Lib.hid (V0.out.below GB.out)
    have BXB := Lib.hid (BX.out.below GB.out)
    have sBb : B ≤ wb.heap.size := Nat.le_trans sB GB.out.size
    clear hwb H0 V0 BX k0 k1 k2 k3 k4 k5 n0 n1
    have k0 := BXB.out.cell 0
    have k1 := BXB.out.cell 1
    have k2 := BXB.out.cell 2
    have k3 := BXB.out.cell 3
    have k4 := BXB.out.cell 4
    have k5 := BXB.out.cell 5
    have n0 := HD.out.blk.cell 0
    have n1 := HD.out.blk.cell 1
    simp only [List.getElem?_toArray, List.getElem?_cons_zero, List.getElem?_cons_succ] at k0 k1 k2 k3 k4 k5 n0 n1
    go_wp2_with fail
    refine (ewrite_any o0 (kk false) B N wb (d.ge false) (d.x false) _ l (HD.out.e false) (IV.out.ok false) hN sBb VB.out hl).mono ?_
    rintro e w2 ⟨z, rfl, hc⟩
    have R := Lib.hid (DuR.call hN SB.out HD.out IV.out hc)
    clear hc
    go_wp2_with fail
    go_ret
    exact ⟨_, rfl, R.out⟩
  case true =>
    have e0 : sI true = 1 := rfl
    rw [e0] at hw0' k1 BX ⊢
    clear e0
    go_enter Tryz.func31, Tryz.ntmps31
    go_wp2_with fail
    clear hw0' hgs'
    go_quiet (fail)
    obtain ⟨wb, hwb⟩ : ∃ W, W = w0.drewN nq := ⟨_, rfl⟩
    rw [← hwb]
    have GB : Hid (Below w0.heap.size w0 wb) := Lib.hid (by rw [hwb]; exact below_drewN (Below.refl _ _) _)
    have SB : Hid (Stp (fun _ => False) o o0 w wb) := Lib.hid (S0.out.trans (Stp.below GB.out))
    have HD := Lib.hid (H0.out.below GB.out)
    have VB := Lib.hid (V0.out.below GB.out)
    have BXB := Lib.hid (BX.out.below GB.out)
    have sBb : B ≤ wb.heap.size := Nat.le_trans sB GB.out.size
    clear hwb H0 V0 BX k0 k1 k2 k3 k4 k5 n0 n1
    have k0 := BXB.out.cell 0
    have k1 := BXB.out.cell 1
    have k2 := BXB.out.cell 2
    have k3 := BXB.out.cell 3
    have k4 := BXB.out.cell 4
    have k5 := BXB.out.cell 5
    have n0 := HD.out.blk.cell 0
    have n1 := HD.out.blk.cell 1
    simp only [List.getElem?_toArray, List.getElem?_cons_zero, List.getElem?_cons_succ] at k0 k1 k2 k3 k4 k5 n0 n1
    go_wp2_with fail
    refine (ewrite_any o0 (kk true) B N wb (d.ge true) (d.x true) _ l (HD.out.e true) (IV.out.ok true) hN sBb VB.out hl).mono ?_
    rintro e w2 ⟨z, rfl, hc⟩
    have R := Lib.hid (DuR.call hN SB.out HD.out IV.out hc)
    clear hc
    go_wp2_with fail
    go_ret
    exact ⟨_, rfl, R.out⟩
set_option maxHeartbeats 16000000 in
set_option maxRecDepth 100000 in
theorem do_k3 (o : Nat → Nat) (B : Nat) (w : World) (gd N : Nat) (d : DuV) (wl : List (Int × Ev)) (s : Bool) (n bit mask : Int) (v : Value) (l : List Int) (h : DuS o B w gd d) (hi : DInv (fun _ => N) d wl) (hN : N + 500000 ≤ 40000000) (hB : B ≤ w.heap.size) (hv : BV w (frozen o) v l) (hl : l.length ≤ 1000000) :
    Calls Tryz.prog 31 #[.pointer (some ⟨gd, 0, none⟩), .agg #[.int .i64 3, .int .i64 (sI s), .int .i64 n, .int .i64 bit, .int .u32 mask, v]] w fun e w' => DoR o B w gd N d wl e w' := by
  obtain ⟨Av, cv, rfl, _, _⟩ := hv.len
  obtain ⟨w0, hw0⟩ : ∃ W, W = w.alloc (.cells #[.int .i64 3, .int .i64 (sI s), .int .i64 n, .int .i64 bit, .int .u32 mask, .slice Av l.length cv] 61) := ⟨_, rfl⟩
  obtain ⟨gs, hgs⟩ : ∃ h, h = w.heap.size := ⟨_, rfl⟩
  have B0 : Hid (Below w.heap.size w w0) := Lib.hid (by rw [hw0]; exact (Below.refl _ _).alloc (Nat.le_refl _) _)
  have BX : Hid (Blk w0 gs #[.int .i64 3, .int .i64 (sI s), .int .i64 n, .int .i64 bit, .int .u32 mask, .slice Av l.length cv] 61) := Lib.hid (by rw [hw0, hgs]; exact Blk.new _ _ _)
  have S0 : Hid (Stp (fun _ => False) o (scr o w.heap.size 0) w w0) := Lib.hid ⟨Frm.of_below B0.out, scr_agr _ _ _⟩
  have og : scr o w.heap.size 0 gs = 0 := by rw [hgs]; exact scr_new (Nat.le_refl _)
  obtain ⟨o0, ho0⟩ : ∃ f, f = scr o w.heap.size 0 := ⟨_, rfl⟩
  rw [← ho0] at S0 og
  have H0 := Lib.hid (h.frm S0.out (fun h => h) (fun _ h => h.elim))
  have V0 : Hid (BV w0 (frozen o0) (.slice Av l.length cv) l) := Lib.hid (BV.stpK hv S0.out (fun h => h))
  have IV := Lib.hid hi
  have hw0' := hw0.symm
  have hgs' := hgs.symm
  have sB : B ≤ w0.heap.size := Nat.le_trans hB B0.out.size
  have k0 := BX.out.cell 0
  have k1 := BX.out.cell 1
  have k2 := BX.out.cell 2
  have k3 := BX.out.cell 3
  have k4 := BX.out.cell 4
  have k5 := BX.out.cell 5
  have n0 := H0.out.blk.cell 0
  have n1 := H0.out.blk.cell 1
  simp only [List.getElem?_toArray, List.getElem?_cons_zero, List.getElem?_cons_succ] at k0 k1 k2 k3 k4 k5 n0 n1
  clear h hi hv hw0 hgs ho0
  cases s
  case false =>
    have e0 : sI false = 0 := rfl
    rw [e0] at hw0' k1 BX ⊢
    clear e0
    go_enter Tryz.func31, Tryz.ntmps31
    go_wp2_with fail
    clear hw0' hgs'
    go_quiet (fail)
    obtain ⟨wb, hwb⟩ : ∃ W, W = w0.drewN nq := ⟨_, rfl⟩
    rw [← hwb]
    have GB : Hid (Below w0.heap.size w0 wb) := Lib.hid (by rw [hwb]; exact below_drewN (Below.refl _ _) _)
    have SB : Hid (Stp (fun _ => False) o o0 w wb) := Lib.hid (S0.out.trans (Stp.below GB.out))
    have HD := Lib.hid (H0.out.below GB.out)
    have VB := Lib.hid (V0.out.below GB.out)
    have BXB := Lib.hid (BX.out.below GB.out)
    have sBb : B ≤ wb.heap.size := Nat.le_trans sB GB.out.size
    clear hwb H0 V0 BX k0 k1 k2 k3 k4 k5 n0 n1
    have k0 := BXB.out.cell 0
    have k1 := BXB.out.cell 1
    have k2 := BXB.out.cell 2
    have k3 := BXB.out.cell 3
    have k4 := BXB.out.cell 4
    have k5 := BXB.out.cell 5
    have n0 := HD.out.blk.cell 0
    have n1 := HD.out.blk.cell 1
    simp only [List.getElem?_toArray, List.getElem?_cons_zero, List.getElem?_cons_succ] at k0 k1 k2 k3 k4 k5 n0 n1
    go_wp2_with fail
    refine (close_any o0 (kk false) B N wb (d.ge false) (d.x false) (HD.out.e false) (IV.out.ok false) hN sBb).mono ?_
    rintro e w2 ⟨q, rfl, hc⟩
    have R := Lib.hid (DuR.call hN SB.out HD.out IV.out hc)
    clear hc
    go_wp2_with fail
    go_ret
    exact ⟨_, rfl, R.out⟩
  case true =>
    have e0 : sI true = 1 := rfl
    rw [e0] at hw0' k1 BX ⊢
    clear e0
    go_enter Tryz.func31, Tryz.ntmps31
    go_wp2_with fail
    clear hw0' hgs'
    go_quiet (fail)
    obtain ⟨wb, hwb⟩ : ∃ W, W = w0.drewN nq := ⟨_, rfl⟩
    rw [← hwb]
    have GB : Hid (Below w0.heap.size w0 wb) := Lib.hid (by rw [hwb]; exact below_drewN (Below.refl _ _) _)
    have SB : Hid (Stp (fun _ => False) o o0 w wb) := Lib.hid (S0.out.trans (Stp.below GB.out))
    have HD := Lib.hid (H0.out.below GB.out)
    have VB := Lib.hid (V0.out.below GB.out)
    have BXB := Lib.hid (BX.out.below GB.out)
    have sBb : B ≤ wb.heap.size := Nat.le_trans sB GB.out.size
    clear hwb H0 V0 BX k0 k1 k2 k3 k4 k5 n0 n1
    have k0 := BXB.out.cell 0
    have k1 := BXB.out.cell 1
    have k2 := BXB.out.cell 2
    have k3 := BXB.out.cell 3
    have k4 := BXB.out.cell 4
    have k5 := BXB.out.cell 5
    have n0 := HD.out.blk.cell 0
    have n1 := HD.out.blk.cell 1
    simp only [List.getElem?_toArray, List.getElem?_cons_zero, List.getElem?_cons_succ] at k0 k1 k2 k3 k4 k5 n0 n1
    go_wp2_with fail
    refine (close_any o0 (kk true) B N wb (d.ge true) (d.x true) (HD.out.e true) (IV.out.ok true) hN sBb).mono ?_
    rintro e w2 ⟨q, rfl, hc⟩
    have R := Lib.hid (DuR.call hN SB.out HD.out IV.out hc)
    clear hc
    go_wp2_with fail
    go_ret
    exact ⟨_, rfl, R.out⟩
set_option maxHeartbeats 16000000 in
set_option maxRecDepth 100000 in
theorem do_k5 (o : Nat → Nat) (B : Nat) (w : World) (gd N : Nat) (d : DuV) (wl : List (Int × Ev)) (s : Bool) (n bit mask : Int) (v : Value) (l : List Int) (h : DuS o B w gd d) (hi : DInv (fun _ => N) d wl) (hN : N + 500000 ≤ 40000000) (hB : B ≤ w.heap.size) (hv : BV w (frozen o) v l) (hl : l.length ≤ 1000000) :
    Calls Tryz.prog 31 #[.pointer (some ⟨gd, 0, none⟩), .agg #[.int .i64 5, .int .i64 (sI s), .int .i64 n, .int .i64 bit, .int .u32 mask, v]] w fun e w' => DoR o B w gd N d wl e w' := by
  obtain ⟨Av, cv, rfl, _, _⟩ := hv.len
  obtain ⟨w0, hw0⟩ : ∃ W, W = w.alloc (.cells #[.int .i64 5, .int .i64 (sI s), .int .i64 n, .int .i64 bit, .int .u32 mask, .slice Av l.length cv] 61) := ⟨_, rfl⟩
  obtain ⟨gs, hgs⟩ : ∃ h, h = w.heap.size := ⟨_, rfl⟩
  have B0 : Hid (Below w.heap.size w w0) := Lib.hid (by rw [hw0]; exact (Below.refl _ _).alloc (Nat.le_refl _) _)
  have BX : Hid (Blk w0 gs #[.int .i64 5, .int .i64 (sI s), .int .i64 n, .int .i64 bit, .int .u32 mask, .slice Av l.length cv] 61) := Lib.hid (by rw [hw0, hgs]; exact Blk.new _ _ _)
  have S0 : Hid (Stp (fun _ => False) o (scr o w.heap.size 0) w w0) := Lib.hid ⟨Frm.of_below B0.out, scr_agr _ _ _⟩
  have og : scr o w.heap.size 0 gs = 0 := by rw [hgs]; exact scr_new (Nat.le_refl _)
  obtain ⟨o0, ho0⟩ : ∃ f, f = scr o w.heap.size 0 := ⟨_, rfl⟩
  rw [← ho0] at S0 og
  have H0 := Lib.hid (h.frm S0.out (fun h => h) (fun _ h => h.elim))
  have V0 : Hid (BV w0 (frozen o0) (.slice Av l.length cv) l) := Lib.hid (BV.stpK hv S0.out (fun h => h))
  have IV := Lib.hid hi
  have hw0' := hw0.symm
  have hgs' := hgs.symm
  have sB : B ≤ w0.heap.size := Nat.le_trans hB B0.out.size
  have k0 := BX.out.cell 0
  have k1 := BX.out.cell 1
  have k2 := BX.out.cell 2
  have k3 := BX.out.cell 3
  have k4 := BX.out.cell 4
  have k5 := BX.out.cell 5
  have n0 := H0.out.blk.cell 0
  have n1 := H0.out.blk.cell 1
  simp only [List.getElem?_toArray, List.getElem?_cons_zero, List.getElem?_cons_succ] at k0 k1 k2 k3 k4 k5 n0 n1
  clear h hi hv hw0 hgs ho0
  cases s
  case false =>
    have e0 : sI false = 0 := rfl
    rw [e0] at hw0' k1 BX ⊢
    clear e0
    go_enter Tryz.func31, Tryz.ntmps31
    go_wp2_with fail
    clear hw0' hgs'
    go_quiet (fail)
    obtain ⟨wb, hwb⟩ : ∃ W, W = w0.drewN nq := ⟨_, rfl⟩
    rw [← hwb]
    have GB : Hid (Below w0.heap.size w0 wb) := Lib.hid (by rw [hwb]; exact below_drewN (Below.refl _ _) _)
    have SB : Hid (Stp (fun _ => False) o o0 w wb) := Lib.hid (S0.out.trans (Stp.below GB.out))
    have HD := Lib.hid (H0.out.below GB.out)
    have VB := Lib.hid (V0.out.below GB.out)
    have BXB := Lib.hid (BX.out.below GB.out)
    have sBb : B ≤ wb.heap.size := Nat.le_trans sB GB.out.size
    clear hwb H0 V0 BX k0 k1 k2 k3 k4 k5 n0 n1
    have k0 := BXB.out.cell 0
    have k1 := BXB.out.cell 1
    have k2 := BXB.out.cell 2
    have k3 := BXB.out.cell 3
    have k4 := BXB.out.cell 4
    have k5 := BXB.out.cell 5
    have n0 := HD.out.blk.cell 0
    have n1 := HD.out.blk.cell 1
    simp only [List.getElem?_toArray, List.getElem?_cons_zero, List.getElem?_cons_succ] at k0 k1 k2 k3 k4 k5 n0 n1
    go_wp2_with fail
    refine (eup_any o0 (kk false) B N wb (d.ge false) (d.x false) n (HD.out.e false) (IV.out.ok false) hN sBb).mono ?_
    rintro e w2 ⟨q, rfl, hc⟩
    have R := Lib.hid (DuR.call hN SB.out HD.out IV.out hc)
    clear hc
    go_wp2_with fail
    go_ret
    exact ⟨_, rfl, R.out⟩
  case true =>
    have e0 : sI true = 1 := rfl
    rw [e0] at hw0' k1 BX ⊢
    clear e0
    go_enter Tryz.func31, Tryz.ntmps31
    go_wp2_with fail
    clear hw0' hgs'
    go_quiet (fail)
    obtain ⟨wb, hwb⟩ : ∃ W, W = w0.drewN nq := ⟨_, rfl⟩
    rw [← hwb]
    have GB : Hid (Below w0.heap.size w0 wb) := Lib.hid (by rw [hwb]; exact below_drewN (Below.refl _ _) _)
    have SB : Hid (Stp (fun _ => False) o o0 w wb) := Lib.hid (S0.out.trans (Stp.below GB.out))
    have HD := Lib.hid (H0.out.below GB.out)
    have VB := Lib.hid (V0.out.below GB.out)
    have BXB := Lib.hid (BX.out.below GB.out)
    have sBb : B ≤ wb.heap.size := Nat.le_trans sB GB.out.size
    clear hwb H0 V0 BX k0 k1 k2 k3 k4 k5 n0 n1
    have k0 := BXB.out.cell 0
    have k1 := BXB.out.cell 1
    have k2 := BXB.out.cell 2
    have k3 := BXB.out.cell 3
    have k4 := BXB.out.cell 4
    have k5 := BXB.out.cell 5
    have n0 := HD.out.blk.cell 0
    have n1 := HD.out.blk.cell 1
    simp only [List.getElem?_toArray, List.getElem?_cons_zero, List.getElem?_cons_succ] at k0 k1 k2 k3 k4 k5 n0 n1
    go_wp2_with fail
    refine (eup_any o0 (kk true) B N wb (d.ge true) (d.x true) n (HD.out.e true) (IV.out.ok true) hN sBb).mono ?_
    rintro e w2 ⟨q, rfl, hc⟩
    have R := Lib.hid (DuR.call hN SB.out HD.out IV.out hc)
    clear hc
    go_wp2_with fail
    go_ret
    exact ⟨_, rfl, R.out⟩
set_option maxHeartbeats 16000000 in
set_option maxRecDepth 100000 in
theorem do_k6 (o : Nat → Nat) (B : Nat) (w : World) (gd N : Nat) (d : DuV) (wl : List (Int × Ev)) (s : Bool) (n bit mask : Int) (v : Value) (l : List Int) (h : DuS o B w gd d) (hi : DInv (fun _ => N) d wl) (hN : N + 500000 ≤ 40000000) (hB : B ≤ w.heap.size) (hv : BV w (frozen o) v l) (hl : l.length ≤ 1000000) :
    Calls Tryz.prog 31 #[.pointer (some ⟨gd, 0, none⟩), .agg #[.int .i64 6, .int .i64 (sI s), .int .i64 n, .int .i64 bit, .int .u32 mask, v]] w fun e w' => DoR o B w gd N d wl e w' := by
  obtain ⟨Av, cv, rfl, _, _⟩ := hv.len
  obtain ⟨w0, hw0⟩ : ∃ W, W = w.alloc (.cells #[.int .i64 6, .int .i64 (sI s), .int .i64 n, .int .i64 bit, .int .u32 mask, .slice Av l.length cv] 61) := ⟨_, rfl⟩
  obtain ⟨gs, hgs⟩ : ∃ h, h = w.heap.size := ⟨_, rfl⟩
  have B0 : Hid (Below w.heap.size w w0) := Lib.hid (by rw [hw0]; exact (Below.refl _ _).alloc (Nat.le_refl _) _)
  have BX : Hid (Blk w0 gs #[.int .i64 6, .int .i64 (sI s), .int .i64 n, .int .i64 bit, .int .u32 mask, .slice Av l.length cv] 61) := Lib.hid (by rw [hw0, hgs]; exact Blk.new _ _ _)
  have S0 : Hid (Stp (fun _ => False) o (scr o w.heap.size 0) w w0) := Lib.hid ⟨Frm.of_below B0.out, scr_agr _ _ _⟩
  have og : scr o w.heap.size 0 gs = 0 := by rw [hgs]; exact scr_new (Nat.le_refl _)
  obtain ⟨o0, ho0⟩ : ∃ f, f = scr o w.heap.size 0 := ⟨_, rfl⟩
  rw [← ho0] at S0 og
  have H0 := Lib.hid (h.frm S0.out (fun h => h) (fun _ h => h.elim))
  have V0 : Hid (BV w0 (frozen o0) (.slice Av l.length cv) l) := Lib.hid (BV.stpK hv S0.out (fun h => h))
  have IV := Lib.hid hi
  have hw0' := hw0.symm
  have hgs' := hgs.symm
  have sB : B ≤ w0.heap.size := Nat.le_trans hB B0.out.size
  have k0 := BX.out.cell 0
  have k1 := BX.out.cell 1
  have k2 := BX.out.cell 2
  have k3 := BX.out.cell 3
  have k4 := BX.out.cell 4
  have k5 := BX.out.cell 5
  have n0 := H0.out.blk.cell 0
  have n1 := H0.out.blk.cell 1
  simp only [List.getElem?_toArray, List.getElem?_cons_zero, List.getElem?_cons_succ] at k0 k1 k2 k3 k4 k5 n0 n1
  clear h hi hv hw0 hgs ho0
  cases s
  case false =>
    have e0 : sI false = 0 := rfl
    rw [e0] at hw0' k1 BX ⊢
    clear e0
    go_enter Tryz.func31, Tryz.ntmps31
    go_wp2_with fail
    clear hw0' hgs'
    go_quiet (fail)
    obtain ⟨wb, hwb⟩ : ∃ W, W = w0.drewN nq := ⟨_, rfl⟩
    rw [← hwb]
    have GB : Hid (Below w0.heap.size w0 wb) := Lib.hid (by rw [hwb]; exact below_drewN (Below.refl _ _) _)
    have SB : Hid (Stp (fun _ => False) o o0 w wb) := Lib.hid (S0.out.trans (Stp.below GB.out))
    have HD := Lib.hid (H0.out.below GB.out)
    have VB := Lib.hid (V0.out.below GB.out)
    have BXB := Lib.hid (BX.out.below GB.out)
    have sBb : B ≤ wb.heap.size := Nat.le_trans sB GB.out.size
    clear hwb H0 V0 BX k0 k1 k2 k3 k4 k5 n0 n1
    have k0 := BXB.out.cell 0
    have k1 := BXB.out.cell 1
    have k2 := BXB.out.cell 2
    have k3 := BXB.out.cell 3
    have k4 := BXB.out.cell 4
    have k5 := BXB.out.cell 5
    have n0 := HD.out.blk.cell 0
    have n1 := HD.out.blk.cell 1
    simp only [List.getElem?_toArray, List.getElem?_cons_zero, List.getElem?_cons_succ] at k0 k1 k2 k3 k4 k5 n0 n1
    go_wp2_with fail
    refine (edown_any o0 (kk false) B N wb (d.ge false) (d.x false) n (HD.out.e false) (IV.out.ok false) hN sBb).mono ?_
    rintro e w2 ⟨q, rfl, hc⟩
    have R := Lib.hid (DuR.call hN SB.out HD.out IV.out hc)
    clear hc
    go_wp2_with fail
    go_ret
    exact ⟨_, rfl, R.out⟩
  case true =>
    have e0 : sI true = 1 := rfl
    rw [e0] at hw0' k1 BX ⊢
    clear e0
    go_enter Tryz.func31, Tryz.ntmps31
    go_wp2_with fail
    clear hw0' hgs'
    go_quiet (fail)
    obtain ⟨wb, hwb⟩ : ∃ W, W = w0.drewN nq := ⟨_, rfl⟩
    rw [← hwb]
    have GB : Hid (Below w0.heap.size w0 wb) := Lib.hid (by rw [hwb]; exact below_drewN (Below.refl _ _) _)
    have SB : Hid (Stp (fun _ => False) o o0 w wb) := Lib.hid (S0.out.trans (Stp.below GB.out))
    have HD := Lib.hid (H0.out.below GB.out)
    have VB := Lib.hid (V0.out.below GB.out)
    have BXB := Lib.hid (BX.out.below GB.out)
    have sBb : B ≤ wb.heap.size := Nat.le_trans sB GB.out.size
    clear hwb H0 V0 BX k0 k1 k2 k3 k4 k5 n0 n1
    have k0 := BXB.out.cell 0
    have k1 := BXB.out.cell 1
    have k2 := BXB.out.cell 2
    have k3 := BXB.out.cell 3
    have k4 := BXB.out.cell 4
    have k5 := BXB.out.cell 5
    have n0 := HD.out.blk.cell 0
    have n1 := HD.out.blk.cell 1
    simp only [List.getElem?_toArray, List.getElem?_cons_zero, List.getElem?_cons_succ] at k0 k1 k2 k3 k4 k5 n0 n1
    go_wp2_with fail
    refine (edown_any o0 (kk true) B N wb (d.ge true) (d.x true) n (HD.out.e true) (IV.out.ok true) hN sBb).mono ?_
    rintro e w2 ⟨q, rfl, hc⟩
    have R := Lib.hid (DuR.call hN SB.out HD.out IV.out hc)
    clear hc
    go_wp2_with fail
    go_ret
    exact ⟨_, rfl, R.out⟩
end Go.Proofs.YtdneakejlbabeaaGreat

namespace Go.Proofs.YtdneakejlbabeaaGreat
open Go.RowKit
set_option linter.unusedVariables false
set_option linter.unusedSimpArgs false

theorem DuS.got {o : Nat → Nat} {B : Nat} {w w7 : World} {gd : Nat} {d : DuV} (h : DuS o B w gd d) (s : Bool) {v7 : Value} {l1 : List Int} (hfr : Frm (fun j => (d.u s).ownBlock = some j) w w7) (hown : w7.ownsRow B 5 1 v7 ((d.g s).length + l1.length) (u8s (d.g s) ++ u8s l1)) (hat : v7.ownBlock = (d.u s).ownBlock ∨ ∀ j, v7.ownBlock = some j → w.heap.size ≤ j) (hb : Byt l1) :
    ∃ o', DuS o' B (w7.setCell ⟨gd, 4 + sN s, none⟩ v7) gd { d with u := up d.u s v7, g := up d.g s (d.g s ++ l1) } ∧ Stp (fun c => c = 300 ∨ c = 304 + sN s) o o' w (w7.setCell ⟨gd, 4 + sN s, none⟩ v7) := by
  have ow := h.go s
  have og := h.og
  have hg := h.blk.lt
  have hw := ext_ow (w' := w7) (c := 304 + sN s) ow hat (fun j hj => (hown.lt j hj).2)
  have hvg : ¬ (d.u s).ownBlock = some gd := fun e => by have := (ow gd e).1; omega
  have hne : ∀ j, v7.ownBlock = some j → j ≠ gd := fun j hj e => by
    have h1 := (hw j hj).1
    rw [e, ext_agr o _ v7 _ gd hg] at h1
    omega
  have f8 := (Frm.refl (· = gd) w7).setg (i := 4 + sN s) v7
  have st : Stp (fun c => c = 300 ∨ c = 304 + sN s) o (ext o w.heap.size v7 (304 + sN s)) w (w7.setCell ⟨gd, 4 + sN s, none⟩ v7) := ⟨(hfr.mono (fun j hj => .inr (ow j hj).1)).setCell (.inl (.inl og)) v7, ext_agr _ _ _ _⟩
  refine ⟨_, h.putG st ((h.blk.frm hfr hvg).set _ _) ⟨?_, fun y hy => ?_⟩ (fun j hj => ⟨(hw j hj).1, Nat.lt_of_lt_of_le (hw j hj).2 f8.size⟩), st⟩
  · rw [u8s_append, List.length_append]
    exact own_frm hown f8 (fun j hj e => hne j hj e)
  · rcases List.mem_append.1 hy with hy | hy
    · exact (h.g s).2 y hy
    · exact hb y hy
set_option maxHeartbeats 16000000 in
set_option maxRecDepth 100000 in
theorem do_k2 (o : Nat → Nat) (B : Nat) (w : World) (gd N : Nat) (d : DuV) (wl : List (Int × Ev)) (s : Bool) (n bit mask : Int) (v : Value) (l : List Int) (h : DuS o B w gd d) (hi : DInv (fun _ => N) d wl) (hN : N + 500000 ≤ 40000000) (hB : B ≤ w.heap.size) (hv : BV w (frozen o) v l) (hl : l.length ≤ 1000000) :
    Calls Tryz.prog 31 #[.pointer (some ⟨gd, 0, none⟩), .agg #[.int .i64 2, .int .i64 (sI s), .int .i64 n, .int .i64 bit, .int .u32 mask, v]] w fun e w' => DoR o B w gd N d wl e w' := by
  obtain ⟨Av, cv, rfl, _, _⟩ := hv.len
  obtain ⟨w0, hw0⟩ : ∃ W, W = w.alloc (.cells #[.int .i64 2, .int .i64 (sI s), .int .i64 n, .int .i64 bit, .int .u32 mask, .slice Av l.length cv] 61) := ⟨_, rfl⟩
  obtain ⟨gs, hgs⟩ : ∃ h, h = w.heap.size := ⟨_, rfl⟩
  have B0 : Hid (Below w.heap.size w w0) := Lib.hid (by rw [hw0]; exact (Below.refl _ _).alloc (Nat.le_refl _) _)
  have BX : Hid (Blk w0 gs #[.int .i64 2, .int .i64 (sI s), .int .i64 n, .int .i64 bit, .int .u32 mask, .slice Av l.length cv] 61) := Lib.hid (by rw [hw0, hgs]; exact Blk.new _ _ _)
  have S0 : Hid (Stp (fun _ => False) o (scr o w.heap.size 0) w w0) := Lib.hid ⟨Frm.of_below B0.out, scr_agr _ _ _⟩
  have og : scr o w.heap.size 0 gs = 0 := by rw [hgs]; exact scr_new (Nat.le_refl _)
  obtain ⟨o0, ho0⟩ : ∃ f, f = scr o w.heap.size 0 := ⟨_, rfl⟩
  rw [← ho0] at S0 og
  have H0 := Lib.hid (h.frm S0.out (fun h => h) (fun _ h => h.elim))
  have V0 : Hid (BV w0 (frozen o0) (.slice Av l.length cv) l) := Lib.hid (BV.stpK hv S0.out (fun h => h))
  have IV := Lib.hid hi
  have hw0' := hw0.symm
  have hgs' := hgs.symm
  have sB : B ≤ w0.heap.size := Nat.le_trans hB B0.out.size
  have k0 := BX.out.cell 0
  have k1 := BX.out.cell 1
  have k2 := BX.out.cell 2
  have k3 := BX.out.cell 3
  have k4 := BX.out.cell 4
  have k5 := BX.out.cell 5
  have n0 := H0.out.blk.cell 0
  have n1 := H0.out.blk.cell 1
  simp only [List.getElem?_toArray, List.getElem?_cons_zero, List.getElem?_cons_succ] at k0 k1 k2 k3 k4 k5 n0 n1
  clear h hi hv hw0 hgs ho0
  cases s
  case false =>
    have e0 : sI false = 0 := rfl
    rw [e0] at hw0' k1 BX ⊢
    clear e0
    go_enter Tryz.func31, Tryz.ntmps31
    go_wp2_with fail
    clear hw0' hgs'
    go_quiet (fail)
    obtain ⟨wb, hwb⟩ : ∃ W, W = w0.drewN nq := ⟨_, rfl⟩
    rw [← hwb]
    have GB : Hid (Below w0.heap.size w0 wb) := Lib.hid (by rw [hwb]; exact below_drewN (Below.refl _ _) _)
    have SB : Hid (Stp (fun _ => False) o o0 w wb) := Lib.hid (S0.out.trans (Stp.below GB.out))
    have HD := Lib.hid (H0.out.below GB.out)
    have VB := Lib.hid (V0.out.below GB.out)
    have BXB := Lib.hid (BX.out.below GB.out)
    have sBb : B ≤ wb.heap.size := Nat.le_trans sB GB.out.size
    clear hwb H0 V0 BX k0 k1 k2 k3 k4 k5 n0 n1
    have k0 := BXB.out.cell 0
    have k1 := BXB.out.cell 1
    have k2 := BXB.out.cell 2
    have k3 := BXB.out.cell 3
    have k4 := BXB.out.cell 4
    have k5 := BXB.out.cell 5
    have n0 := HD.out.blk.cell 0
    have n1 := HD.out.blk.cell 1
    simp only [List.getElem?_toArray, List.getElem?_cons_zero, List.getElem?_cons_succ] at k0 k1 k2 k3 k4 k5 n0 n1
    have HI := Lib.hid Tryz.info5
    go_wp2_with fail
    refine (eread_any o0 (kk false) B N wb (d.ge false) (d.x false) n (HD.out.e false) (IV.out.ok false) hN sBb).mono ?_
    rintro e w2 ⟨v1, l1, o2, x2, es2, rfl, hbv, hl1, hx2, hs2, ha2, h42⟩
    have H2 := Lib.hid (HD.out.putE hx2 hs2)
    have I2 : Hid (DInv (fun _ => N + 500000) { d with x := up d.x false x2 } (wl ++ es2.map fun e => (sI false, e))) := Lib.hid ((IV.out.act ha2 (fun e he h => absurd h (h42 e he))).upN (fun t => by
      by_cases ht : t = false
      · subst ht; rw [up_same]; exact ⟨Nat.le_refl _, hN⟩
      · rw [up_other _ _ ht]; exact ⟨by omega, hN⟩))
    have S2 : Hid (Stp DC o o2 w w2) := Lib.hid ((SB.out.mono (fun _ h => h.elim)).trans (hs2.mono (EC_DC false)))
    have EC0 : ¬ EC (kk false) 0 := fun h => by have := h.1; simp [kk] at this
    have BX2 := Lib.hid (BXB.out.frm hs2.f (by rw [og]; exact EC0))
    have HB := Lib.hid hbv
    obtain ⟨A1, c1, rfl, _, _⟩ := hbv.len
    have og2 : o2 gs = 0 := (hs2.ag gs BXB.out.lt).trans og
    have hgl := IV.out.gl false
    clear hx2 hs2 ha2 h42 hbv k0 k1 k2 k3 k4 k5 n0 n1
    obtain ⟨Au, cu, hvu⟩ := own_slice' (H2.out.g false).1
    dsimp only at hvu
    have OU : Hid (w2.ownsRow B 5 1 (.slice Au (d.g false).length cu) (d.g false).length (u8s (d.g false))) := Lib.hid (hvu ▸ (H2.out.g false).1)
    have OWU := Lib.hid (hvu ▸ H2.out.go false : Ow o2 w2 (304 + sN false) (.slice Au (d.g false).length cu))
    have HVU := Lib.hid hvu
    have n4 := H2.out.blk.cell 4
    have f4 := H2.out.blk.free 4
    have k1 := BX2.out.cell 1
    simp only [List.getElem?_toArray, List.getElem?_cons_zero, List.getElem?_cons_succ] at n4 k1
    rw [hvu] at n4
    have sB2 : B ≤ w2.heap.size := Nat.le_trans hB S2.out.size
    have gsl := BX2.out.lt
    have gdl := H2.out.blk.lt
    have hgs4 : ¬ (Value.slice Au (d.g false).length cu).ownBlock = some gs := fun e => by have := (OWU.out gs e).1; omega
    have hgd4 : ¬ (Value.slice Au (d.g false).length cu).ownBlock = some gd := fun e => by have := (OWU.out gd e).1; have := H2.out.og; omega
    have HSL := Lib.hid HB.out.sl
    clear hvu
    go_wp2_with fail
    first | (go_region_law (first | (refine step_app (v := .slice Au (d.g false).length cu) B (by rfl) _ _ 25 5 (.int .u8 0) 1 1 (by rfl) Tryz.underlying25 HI.out rfl (by omega) (by omega) (by rfl) (by rfl) (show w2.drew.ownsRow B 5 1 _ _ _ from OU.out) (show Sl w2.drew 1 _ _ _ from HSL.out) (by omega) sB2 ?_; intro v7 w7 hown hfr hat; have F7 : Hid (Frm (fun j => (Value.slice Au (d.g false).length cu).ownBlock = some j) w2 w7) := Lib.hid ((Frm.refl _ w2).drew.trans hfr); have O7 := Lib.hid hown; have HAT : Hid (v7.ownBlock = (Value.slice Au (d.g false).length cu).ownBlock ∨ ∀ j, v7.ownBlock = some j → w2.heap.size ≤ j) := Lib.hid (hat.imp id (fun e j hj => by rw [e] at hj; injection hj with hj; rw [← hj]; exact Nat.le_refl _)); have e4 := (show w7.cell? ⟨gd, 4, none⟩ = w2.cell? ⟨gd, 4, none⟩ from World.cell?_of_block (F7.out.block gd gdl hgd4)).trans n4; have g4 := (show w7.frozen? ⟨gd, 4, none⟩ = w2.frozen? ⟨gd, 4, none⟩ from World.frozen?_of_block (F7.out.block gd gdl hgd4)).trans f4; have e1 := (show w7.cell? ⟨gs, 1, none⟩ = w2.cell? ⟨gs, 1, none⟩ from World.cell?_of_block (F7.out.block gs gsl hgs4)).trans k1; obtain ⟨A7, c7_, rfl⟩ := own_slice' hown; clear hown hfr hat) | fail)) | fail
    all_goals
      obtain ⟨o9, h9, s9⟩ := H2.out.got false (l1 := l1) (by dsimp only; rw [HVU.out]; exact F7.out) (by dsimp only; exact O7.out) (by dsimp only; rw [HVU.out]; exact HAT.out) HB.out.byt
      have R : Hid (DuR o B w gd N _) := Lib.hid ⟨o9, _, _, h9, S2.out.trans (s9.mono (fun c hc => by rcases hc with rfl | rfl <;> simp [DC, sN])), I2.out.gotw _ (by dsimp only; rw [List.length_append]; omega)⟩
      clear h9 s9
      go_wp2_with fail
      go_ret
      exact ⟨_, rfl, R.out⟩
  case true =>
    have e0 : sI true = 1 := rfl
    rw [e0] at hw0' k1 BX ⊢
    clear e0
    go_enter Tryz.func31, Tryz.ntmps31
    go_wp2_with fail
    clear hw0' hgs'
    go_quiet (fail)
    obtain ⟨wb, hwb⟩ : ∃ W, W = w0.drewN nq := ⟨_, rfl⟩
    rw [← hwb]
    have GB : Hid (Below w0.heap.size w0 wb) := Lib.hid (by rw [hwb]; exact below_drewN (Below.refl _ _) _)
    have SB : Hid (Stp (fun _ => False) o o0 w wb) := Lib.hid (S0.out.trans (Stp.below GB.out))
    have HD := Lib.hid (H0.out.below GB.out)
    have VB := Lib.hid (V0.out.below GB.out)
    have BXB := Lib.hid (BX.out.below GB.out)
    have sBb : B ≤ wb.heap.size := Nat.le_trans sB GB.out.size
    clear hwb H0 V0 BX k0 k1 k2 k3 k4 k5 n0 n1
    have k0 := BXB.out.cell 0
    have k1 := BXB.out.cell 1
    have k2 := BXB.out.cell 2
    have k3 := BXB.out.cell 3
    have k4 := BXB.out.cell 4
    have k5 := BXB.out.cell 5
    have n0 := HD.out.blk.cell 0
    have n1 := HD.out.blk.cell 1
    simp only [List.getElem?_toArray, List.getElem?_cons_zero, List.getElem?_cons_succ] at k0 k1 k2 k3 k4 k5 n0 n1
    have HI := Lib.hid Tryz.info5
    go_wp2_with fail
    refine (eread_any o0 (kk true) B N wb (d.ge true) (d.x true) n (HD.out.e true) (IV.out.ok true) hN sBb).mono ?_
    rintro e w2 ⟨v1, l1, o2, x2, es2, rfl, hbv, hl1, hx2, hs2, ha2, h42⟩
    have H2 := Lib.hid (HD.out.putE hx2 hs2)
    have I2 : Hid (DInv (fun _ => N + 500000) { d with x := up d.x true x2 } (wl ++ es2.map fun e => (sI true, e))) := Lib.hid ((IV.out.act ha2 (fun e he h => absurd h (h42 e he))).upN (fun t => by
      by_cases ht : t = true
      · subst ht; rw [up_same]; exact ⟨Nat.le_refl _, hN⟩
      · rw [up_other _ _ ht]; exact ⟨by omega, hN⟩))
    have S2 : Hid (Stp DC o o2 w w2) := Lib.hid ((SB.out.mono (fun _ h => h.elim)).trans (hs2.mono (EC_DC true)))
    have EC0 : ¬ EC (kk true) 0 := fun h => by have := h.1; simp [kk] at this
    have BX2 := Lib.hid (BXB.out.frm hs2.f (by rw [og]; exact EC0))
    have HB := Lib.hid hbv
    obtain ⟨A1, c1, rfl, _, _⟩ := hbv.len
    have og2 : o2 gs = 0 := (hs2.ag gs BXB.out.lt).trans og
    have hgl := IV.out.gl true
    clear hx2 hs2 ha2 h42 hbv k0 k1 k2 k3 k4 k5 n0 n1
    obtain ⟨Au, cu, hvu⟩ := own_slice' (H2.out.g true).1
    dsimp only at hvu
    have OU : Hid (w2.ownsRow B 5 1 (.slice Au (d.g true).length cu) (d.g true).length (u8s (d.g true))) := Lib.hid (hvu ▸ (H2.out.g true).1)
    have OWU := Lib.hid (hvu ▸ H2.out.go true : Ow o2 w2 (304 + sN true) (.slice Au (d.g true).length cu))
    have HVU := Lib.hid hvu
    have n4 := H2.out.blk.cell 5
    have f4 := H2.out.blk.free 5
    have k1 := BX2.out.cell 1
    simp only [List.getElem?_toArray, List.getElem?_cons_zero, List.getElem?_cons_succ] at n4 k1
    rw [hvu] at n4
    have sB2 : B ≤ w2.heap.size := Nat.le_trans hB S2.out.size
    have gsl := BX2.out.lt
    have gdl := H2.out.blk.lt
    have hgs4 : ¬ (Value.slice Au (d.g true).length cu).ownBlock = some gs := fun e => by have := (OWU.out gs e).1; omega
    have hgd4 : ¬ (Value.slice Au (d.g true).length cu).ownBlock = some gd := fun e => by have := (OWU.out gd e).1; have := H2.out.og; omega
    have HSL := Lib.hid HB.out.sl
    clear hvu
    go_wp2_with fail
    first | (go_region_law (first | (refine step_app (v := .slice Au (d.g true).length cu) B (by rfl) _ _ 25 5 (.int .u8 0) 1 1 (by rfl) Tryz.underlying25 HI.out rfl (by omega) (by omega) (by rfl) (by rfl) (show w2.drew.ownsRow B 5 1 _ _ _ from OU.out) (show Sl w2.drew 1 _ _ _ from HSL.out) (by omega) sB2 ?_; intro v7 w7 hown hfr hat; have F7 : Hid (Frm (fun j => (Value.slice Au (d.g true).length cu).ownBlock = some j) w2 w7) := Lib.hid ((Frm.refl _ w2).drew.trans hfr); have O7 := Lib.hid hown; have HAT : Hid (v7.ownBlock = (Value.slice Au (d.g true).length cu).ownBlock ∨ ∀ j, v7.ownBlock = some j → w2.heap.size ≤ j) := Lib.hid (hat.imp id (fun e j hj => by rw [e] at hj; injection hj with hj; rw [← hj]; exact Nat.le_refl _)); have e4 := (show w7.cell? ⟨gd, 5, none⟩ = w2.cell? ⟨gd, 5, none⟩ from World.cell?_of_block (F7.out.block gd gdl hgd4)).trans n4; have g4 := (show w7.frozen? ⟨gd, 5, none⟩ = w2.frozen? ⟨gd, 5, none⟩ from World.frozen?_of_block (F7.out.block gd gdl hgd4)).trans f4; have e1 := (show w7.cell? ⟨gs, 1, none⟩ = w2.cell? ⟨gs, 1, none⟩ from World.cell?_of_block (F7.out.block gs gsl hgs4)).trans k1; obtain ⟨A7, c7_, rfl⟩ := own_slice' hown; clear hown hfr hat) | fail)) | fail
    all_goals
      obtain ⟨o9, h9, s9⟩ := H2.out.got true (l1 := l1) (by dsimp only; rw [HVU.out]; exact F7.out) (by dsimp only; exact O7.out) (by dsimp only; rw [HVU.out]; exact HAT.out) HB.out.byt
      have R : Hid (DuR o B w gd N _) := Lib.hid ⟨o9, _, _, h9, S2.out.trans (s9.mono (fun c hc => by rcases hc with rfl | rfl <;> simp [DC, sN])), I2.out.gotw _ (by dsimp only; rw [List.length_append]; omega)⟩
      clear h9 s9
      go_wp2_with fail
      go_ret
      exact ⟨_, rfl, R.out⟩
end Go.Proofs.YtdneakejlbabeaaGreat
