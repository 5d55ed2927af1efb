/- The contracts of Sync, Cut, Drop, Read, Fuse. -/
import Derived.Test.YtfcagjnedaaadaaSto
namespace Go.Proofs.Ytfcagjnedaaadaa
open Go.RowKit
attribute [local go_sem] run_max2 run_min2 run_max_ run_min_

def thereS (s : St) (n : Int) : Int := if mayS s n = 0 then if (s.f n).isSome = true then 0 else 3 else mayS s n
set_option maxRecDepth 100000 in
theorem there_any (g b : Nat) (S : Nat → Prop) (N L : Nat) (s : St) (n r : Int) (hn : (Lit.int .i64 n).wf = true) (hr : thereS s n = r) (w : World) (h : Sto w g b S N L s) :
    Calls Try.prog 42 #[.pointer (some ⟨g, 0, none⟩), .int .i64 n] w fun e w' => e = .returned (.int .i64 r) ∧ Below w.heap.size w w' := by
  have H := Lib.hid h
  have c0 := h.blk.cell 0
  simp at c0
  obtain ⟨gv, hm, hh⟩ := h.hold
  have his := hh.some_iff n
  obtain ⟨A, c, hv, _⟩ := hh.get n
  have HM := Lib.hid hm
  have HV := Lib.hid hv
  have HIS := Lib.hid his
  clear h hm hh hv his
  obtain ⟨q, hq⟩ : ∃ q, mayS s n = q := ⟨_, rfl⟩
  unfold thereS at hr
  rw [hq] at hr
  by_cases hq0 : q = 0
  · subst hq0
    rw [if_pos rfl] at hr
    cases hi : (s.f n).isSome
    · rw [hi] at hr
      simp at hr
      subst hr
      go_enter Try.func42, Try.ntmps42
      go_wp2_with fail
      refine (may_at g b S N L s n 0 hq _ H.out).mono ?_
      rintro e _ ⟨rfl, rfl⟩
      go_wp2_with (at_lookup; refine wp_look_ok rfl _ _ rfl b N gv rfl HM.out n rfl hn _ HV.out false (HIS.out.trans hi) ?_)
      go_ret
      exact ⟨rfl, (Below.refl _ _).alloc (Nat.le_refl _) _⟩
    · rw [hi] at hr
      simp at hr
      subst hr
      go_enter Try.func42, Try.ntmps42
      go_wp2_with fail
      refine (may_at g b S N L s n 0 hq _ H.out).mono ?_
      rintro e _ ⟨rfl, rfl⟩
      go_wp2_with (at_lookup; refine wp_look_ok rfl _ _ rfl b N gv rfl HM.out n rfl hn _ HV.out true (HIS.out.trans hi) ?_)
      go_ret
      exact ⟨rfl, (Below.refl _ _).alloc (Nat.le_refl _) _⟩
  · have hq1 : (q == 0) = false := by simpa using hq0
    rw [if_neg hq0] at hr
    subst hr
    go_enter Try.func42, Try.ntmps42
    go_wp2_with fail
    refine (may_at g b S N L s n q hq _ H.out).mono ?_
    rintro e _ ⟨rfl, rfl⟩
    go_wp2_with fail
    go_ret
    exact ⟨rfl, Below.refl _ _⟩
set_option maxRecDepth 100000 in
theorem read_any (g b : Nat) (S : Nat → Prop) (N L : Nat) (s : St) (n : Int) (hn : (Lit.int .i64 n).wf = true) (w : World) (h : Sto w g b S N L s) (hL : L ≤ 1000000) :
    Calls Try.prog 14 #[.pointer (some ⟨g, 0, none⟩), .int .i64 n] w fun e w' => ∃ v, e = .returned (.tuple #[v, .bool (s.f n).isSome]) ∧ w'.ownsRow w.heap.size 5 1 v (bkAt s.f n).1.length (u8s (bkAt s.f n).1) ∧ Below w.heap.size w w' := by
  have H := Lib.hid h
  have c0 := h.blk.cell 0
  simp at c0
  obtain ⟨gv, hm, hh⟩ := h.hold
  have his := hh.some_iff n
  obtain ⟨A, c, hv, hs, _, _, _, hl⟩ := hh.get n
  have HM := Lib.hid hm
  have HV := Lib.hid hv
  have HIS := Lib.hid his
  have HS := Lib.hid hs
  clear h hm hh hv his hs
  generalize bkAt s.f n = x at *
  go_enter Try.func14, Try.ntmps14
  go_wp2_with (at_lookup; refine wp_look_ok rfl _ _ rfl b N gv rfl HM.out n rfl hn _ HV.out _ HIS.out ?_)
  refine (clone_any _ _ _ _ _ (HS.out.alloc _) (by omega)).mono ?_
  rintro e w1 ⟨v, rfl, hv, hb⟩
  have HVV := Lib.hid (own_base hv (by simp : w.heap.size ≤ _))
  have HB := Lib.hid (((Below.refl _ _).alloc (Nat.le_refl _) _).trans (hb.mono (by simp : w.heap.size ≤ _)))
  clear hv hb
  go_wp2_with fail
  refine bodyPost_ret (results_tmp2 rfl _ _ _) rfl ?_
  exact ⟨v, rfl, HVV.out, HB.out⟩

theorem wf_range {n : Int} (h : (Lit.int .i64 n).wf = true) : -9223372036854775808 ≤ n ∧ n ≤ 9223372036854775807 := by
  have h1 : IntKind.i64.min = -9223372036854775808 := by decide
  have h2 : IntKind.i64.max = 9223372036854775807 := by decide
  simp [Lit.wf] at h
  omega
theorem _root_.Go.RowKit.Below.drewN'' {B : Nat} {a w : World} (h : Below B a w) (n : Nat) : Below B a (w.drewN n) := ⟨h.os, h.tape, h.output, h.size, h.block⟩

set_option maxRecDepth 100000 in
theorem fuse_any (g b : Nat) (S : Nat → Prop) (N L : Nat) (s : St) (n nl : Int) (hn : (Lit.int .i64 n).wf = true) (hnl : mx 0 n = nl) (w : World) (h : Sto w g b S N L s) :
    Calls Try.prog 26 #[.pointer (some ⟨g, 0, none⟩), .int .i64 n] w fun e w' => e = .returned (.tuple #[]) ∧ Sto w' g b S N L { s with lit := true, left := nl } ∧ Frm (· = g) w w' := by
  have c2 := h.blk.cell 2
  have c3 := h.blk.cell 3
  have f2 := h.blk.free 2
  have f3 := h.blk.free 3
  simp at c2 c3
  have hb2 : Blk ((w.setCell ⟨g, 2, none⟩ (.bool true)).setCell ⟨g, 3, none⟩ (.int .i64 nl)) g #[.map (some b), .bool s.dead, .bool true, .int .i64 nl] 57 := by
    have := (h.blk.set 2 (.bool true)).set 3 (.int .i64 nl)
    simpa using this
  have hf := ((Frm.refl (· = g) w).setg (i := 2) (.bool true)).setg (i := 3) (.int .i64 nl)
  have hl1 : n ≤ 9223372036854775807 := by
    have := wf_range hn
    omega
  have HS : Hid (Sto ((w.setCell ⟨g, 2, none⟩ (.bool true)).setCell ⟨g, 3, none⟩ (.int .i64 nl)) g b S N L { s with lit := true, left := nl }) := by
    obtain ⟨gv, h1, h2⟩ := h.hold
    refine Lib.hid ⟨hb2, h.ne, ?_, ?_, ⟨gv, h1.frm hf (fun e => h.ne e.symm), h2.frm hf (fun j hj e => (h.av j hj).1 e)⟩, h.av⟩
    · show 0 ≤ nl
      rw [← hnl]; unfold mx; split <;> omega
    · show nl ≤ 9223372036854775807
      rw [← hnl]; unfold mx; split <;> omega
  have HF := Lib.hid hf
  unfold mx at hnl
  clear h hb2 hf
  by_cases h0 : 0 < n
  · rw [if_pos h0] at hnl
    subst hnl
    go_enter Try.func26, Try.ntmps26
    go_wp2_with fail
    go_end0
    exact ⟨rfl, HS.out, HF.out⟩
  · rw [if_neg h0] at hnl
    subst hnl
    go_enter Try.func26, Try.ntmps26
    go_wp2_with fail
    go_end0
    exact ⟨rfl, HS.out, HF.out⟩
end Go.Proofs.Ytfcagjnedaaadaa
