/- What the functions that Sync, Cut and Drop make do. -/
import Derived.Test.YtfcagjnedaaadaaLb
import Derived.Deep.RegionHeld3
namespace Go.Proofs.Ytfcagjnedaaadaa
open Go.RowKit
attribute [local go_sem] run_max2 run_min2 run_max_ run_min_

theorem frm_cell {S : Nat → Prop} {w w' : World} (k : Frm S w w') {p : Addr} {v : Value} (h : w.cell? p = some v) (hn : ¬ S p.block) : w'.cell? p = some v :=
  (World.cell?_of_block (k.block _ (World.block_lt_of_cell? w p h) hn)).trans h

theorem fld0 (A : Option Addr) (n c : Nat) (s : Int) (f : Bool) (W : World) : (Instr.field 60 (.agg #[.slice A n c, .int .i64 s, .bool f]) 0).run Try.prog W = .ok (.slice A n c) W := by kernel_rfl

theorem MpV.ne {w : World} {b N : Nat} {g : Int → Option Value} (h : MpV w b N g) {p : Addr} {v : Value} (hc : w.cell? p = some v) : p.block ≠ b := by
  obtain ⟨D, n, _, ⟨es, clock, hb, _⟩, _⟩ := h
  rintro rfl
  simp [World.cell?, hb] at hc
theorem own_slice' {w : World} {base n : Nat} {e : TypeId} {size : Nat} {v : Value} {xs : List Value} (h : w.ownsRow base e size v n xs) : ∃ A c, v = .slice A n c := by
  rcases h.2 with ⟨rfl, rfl⟩ | ⟨g, cap, cur, rfl, _⟩
  · exact ⟨none, 0, rfl⟩
  · exact ⟨_, cap, rfl⟩

set_option maxRecDepth 100000 in
theorem dropc_any (g b N : Nat) (gv : Int → Option Value) (n : Int) (hn : (Lit.int .i64 n).wf = true) (w : World) (p0 p1 : Nat) (h : MpV w b N gv)
    (h0 : w.cell? ⟨p0, 0, none⟩ = some (.pointer (some ⟨g, 0, none⟩))) (h1 : w.cell? ⟨p1, 0, none⟩ = some (.int .i64 n)) (h3 : w.cell? ⟨g, 0, none⟩ = some (.map (some b))) :
    Calls Try.prog 46 #[.pointer (some ⟨p0, 0, none⟩), .pointer (some ⟨p1, 0, none⟩)] w fun e w' => e = .returned (.tuple #[]) ∧ MpV w' b N (upd gv n none) ∧ Frm (· = b) w w' := by
  have H := Lib.hid h
  obtain ⟨w2, hr2, hm2, hf2⟩ := h.drew.del n hn 0
  have HM2 := Lib.hid hm2
  have HF2 := Lib.hid hf2
  clear h hm2 hf2
  go_enter Try.func46, Try.ntmps46
  go_wp2_with fail
  go_region
  all_goals
    go_wp2_with fail
    go_end0
    exact ⟨rfl, HM2.out, ((Frm.refl _ _).drew).trans HF2.out⟩

set_option maxRecDepth 100000 in
theorem syncc_any (g b N : Nat) (gv : Int → Option Value) (n : Int) (hn : (Lit.int .i64 n).wf = true) (w : World) (p0 p1 : Nat) (h : MpV w b N gv) (hN : N < maxLen)
    (h0 : w.cell? ⟨p0, 0, none⟩ = some (.pointer (some ⟨g, 0, none⟩))) (h1 : w.cell? ⟨p1, 0, none⟩ = some (.int .i64 n)) (h3 : w.cell? ⟨g, 0, none⟩ = some (.map (some b)))
    (A0 : Option Addr) (m0 c0 : Nat) (sy : Int) (fm : Bool) (hv : (gv n).getD zB = .agg #[.slice A0 m0 c0, .int .i64 sy, .bool fm]) :
    Calls Try.prog 45 #[.pointer (some ⟨p0, 0, none⟩), .pointer (some ⟨p1, 0, none⟩)] w fun e w' => e = .returned (.tuple #[]) ∧ MpV w' b (N + 1) (upd gv n (some (.agg #[.slice A0 m0 c0, .int .i64 m0, .bool true]))) ∧ Frm (· = b) w w' := by
  have H := Lib.hid h
  have q1 := h.drew.look n hn _ hv
  have qf := fld0 A0 m0 c0 sy fm
  have hbl := h.lt
  have n0 := h.ne h0
  have n1 := h.ne h1
  have n3 := h.ne h3
  have k3 : Hid (∀ w', Frm (· = b) w.drew w' → w'.cell? ⟨p0, 0, none⟩ = some (.pointer (some ⟨g, 0, none⟩)) ∧ w'.cell? ⟨p1, 0, none⟩ = some (.int .i64 n) ∧ w'.cell? ⟨g, 0, none⟩ = some (.map (some b))) :=
    Lib.hid (fun w' k => ⟨frm_cell k h0 n0, frm_cell k h1 n1, frm_cell k h3 n3⟩)
  clear h
  go_enter Try.func45, Try.ntmps45
  go_wp2_with fail
  go_region_held3 (fun w' => w'.cell? ⟨p0, 0, none⟩ = some (.pointer (some ⟨g, 0, none⟩)) ∧ w'.cell? ⟨p1, 0, none⟩ = some (.int .i64 n) ∧ w'.cell? ⟨g, 0, none⟩ = some (.map (some b))) (first | go_keep | exact k3.out _ HBF.out | exact k3.out _ (HBF.out.trans HF5.out)) (first | (go_at_call 44; (with_reducible refine (firm_any _ _ _ _).mono ?_); rintro e wf ⟨rfl, hbf⟩; have HBF := Lib.hid (Frm.of_below (S := (· = b)) hbf); obtain ⟨w5, hU, hM5, hF5⟩ := (H.out.frm (Frm.of_below (S := fun _ => False) (Below.trans (Below.refl _ _).drew hbf)) (fun h => h)).put hN n hn (.agg #[.slice A0 m0 c0, .int .i64 m0, .bool true]); have HM5 := Lib.hid hM5; have HF5 := Lib.hid hF5; clear hM5 hF5 hbf))
  all_goals
    go_wp2_with fail
    go_end0
    exact ⟨rfl, HM5.out, ((Frm.refl _ _).drew.trans HBF.out).trans HF5.out⟩

set_option maxRecDepth 100000 in
theorem cutc_any (g b N : Nat) (gv : Int → Option Value) (n : Int) (hn : (Lit.int .i64 n).wf = true) (w : World) (p0 p1 p2 k : Nat) (h : MpV w b N gv) (hN : N < maxLen)
    (h0 : w.cell? ⟨p0, 0, none⟩ = some (.pointer (some ⟨g, 0, none⟩))) (h1 : w.cell? ⟨p1, 0, none⟩ = some (.int .i64 n)) (h2 : w.cell? ⟨p2, 0, none⟩ = some (.int .i64 k)) (h3 : w.cell? ⟨g, 0, none⟩ = some (.map (some b)))
    (A0 : Option Addr) (m0 c0 : Nat) (sy : Int) (fm : Bool) (hv : (gv n).getD zB = .agg #[.slice A0 m0 c0, .int .i64 sy, .bool fm]) (hk : k ≤ m0) (xs : List Value) (S0 : Sl w 1 (.slice A0 m0 c0) m0 xs) (hm0 : m0 ≤ 1000000) :
    Calls Try.prog 43 #[.pointer (some ⟨p0, 0, none⟩), .pointer (some ⟨p1, 0, none⟩), .pointer (some ⟨p2, 0, none⟩)] w fun e w' => e = .returned (.tuple #[]) ∧ ∃ A' c', MpV w' b (N + 1) (upd gv n (some (.agg #[.slice A' k c', .int .i64 k, .bool true]))) ∧
      w'.ownsRow w.heap.size 5 1 (.slice A' k c') k (xs.take k) ∧ Frm (· = b) w w' := by
  have H := Lib.hid h
  have q1 := h.drew.look n hn _ hv
  have qf := fld0 A0 m0 c0 sy fm
  have hbl := h.lt
  have n0 := h.ne h0
  have n1 := h.ne h1
  have n2 := h.ne h2
  have n3 := h.ne h3
  have k3 : Hid (∀ w', Frm (· = b) w.drew w' → w'.cell? ⟨p0, 0, none⟩ = some (.pointer (some ⟨g, 0, none⟩)) ∧ w'.cell? ⟨p1, 0, none⟩ = some (.int .i64 n) ∧ w'.cell? ⟨p2, 0, none⟩ = some (.int .i64 k) ∧ w'.cell? ⟨g, 0, none⟩ = some (.map (some b))) :=
    Lib.hid (fun w' k => ⟨frm_cell k h0 n0, frm_cell k h1 n1, frm_cell k h2 n2, frm_cell k h3 n3⟩)
  obtain ⟨_, hmc, _⟩ : n = n ∧ m0 ≤ c0 ∧ c0 ≤ maxLen := by
    obtain ⟨A, c, e, h1, h2, _⟩ := S0
    injection e with _ _ e3
    subst e3
    exact ⟨rfl, h1, h2⟩
  have kk0 : (0 : Int) ≤ (k : Int) := by omega
  have kk1 : (k : Int) ≤ (c0 : Int) := by omega
  have kk2 : k ≤ c0 := by omega
  have HS := Lib.hid (S0.take hk).drew
  clear h S0
  go_enter Try.func43, Try.ntmps43
  go_wp2_with fail
  go_region_held3 (fun w' => w'.cell? ⟨p0, 0, none⟩ = some (.pointer (some ⟨g, 0, none⟩)) ∧ w'.cell? ⟨p1, 0, none⟩ = some (.int .i64 n) ∧ w'.cell? ⟨p2, 0, none⟩ = some (.int .i64 k) ∧ w'.cell? ⟨g, 0, none⟩ = some (.map (some b))) (first | go_keep | exact k3.out _ HBC.out | exact k3.out _ HBF.out | exact k3.out _ (HBF.out.trans HF5.out)) (first | (go_at_call 40; (with_reducible refine (clone_any _ _ _ _ _ HS.out (by omega)).mono ?_); rintro e wc ⟨vc, rfl, hvc, hbc⟩; obtain ⟨A', c', rfl⟩ := own_slice' hvc; have HVC := Lib.hid hvc; have HBC := Lib.hid (Frm.of_below (S := (· = b)) hbc); have HBB := Lib.hid hbc; clear hvc hbc) | (go_at_call 44; (with_reducible refine (firm_any _ _ _ _).mono ?_); rintro e wf ⟨rfl, hbf⟩; have HBF := Lib.hid (HBC.out.trans (Frm.of_below (S := (· = b)) hbf)); have HVF := Lib.hid (own_frm HVC.out (Frm.of_below (S := fun _ => False) hbf) (fun _ _ h => h)); obtain ⟨w5, hU, hM5, hF5⟩ := (H.out.frm (Frm.of_below (S := fun _ => False) ((Below.trans (Below.refl _ _).drew HBB.out).trans (hbf.mono HBB.out.size))) (fun h => h)).put hN n hn (.agg #[.slice A' k c', .int .i64 k, .bool true]); have HM5 := Lib.hid hM5; have HF5 := Lib.hid hF5; clear hM5 hF5 hbf))
  all_goals
    go_wp2_with fail
    go_end0
    refine ⟨rfl, A', c', HM5.out, own_frm HVF.out HF5.out (fun g hg e => ?_), ((Frm.refl _ _).drew.trans HBF.out).trans HF5.out⟩
    have := (HVF.out.lt _ hg).1
    have hz : w.drew.heap.size = w.heap.size := rfl
    omega
end Go.Proofs.Ytfcagjnedaaadaa
