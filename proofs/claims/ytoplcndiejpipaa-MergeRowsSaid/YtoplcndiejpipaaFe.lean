/- One side's events of a joined row. -/
import Derived.Test.YtoplcndiejpipaaFd
namespace Go.Proofs.Ytoplcndiejpipaa
open Go.RowKit
set_option linter.unusedVariables false
set_option linter.unusedSimpArgs false

/-- The texts of a row's events are not too long. -/
def Small (ns : List (Int × Ev)) : Prop := ∀ y ∈ ns, y.2.data.length ≤ 1000000 ∧ y.2.pk.data.length ≤ 1000000
/-- A new row of events. -/
def NewE (w : World) (es : List Ev) (r : Ending) (w' : World) : Prop := ∃ v S, r = .returned v ∧ ERow S w' v es ∧ Below w.heap.size w w'
def OnlyR (w : World) (s : Int) (ns : List (Int × Ev)) (i v : Value) (wr : World) : Prop :=
  ∃ (k : Nat) (S : Nat → Prop), k ≤ ns.length ∧ i = .int .i64 k ∧ OutG ecells 12 27 (fun S w (e : Ev) x => EV w S e x) w.heap.size S wr v (only s (ns.take k)) ∧ (∀ j, S j → w.heap.size ≤ j) ∧ Below w.heap.size w wr

set_option maxHeartbeats 4000000 in
set_option maxRecDepth 100000 in
theorem only_any (w : World) (S : Nat → Prop) (v : Value) (ns : List (Int × Ev)) (s : Int) (h : NRow S w v ns) (hn : ns.length ≤ 100000) (hs : Small ns) :
    Calls Try.prog 10 #[v, .int .i64 s] w fun r w' => NewE w (only s ns) r w' := by
  obtain ⟨A, c, rfl, hc1, hc2⟩ := h.len
  have H := Lib.hid h
  have HS := Lib.hid hs
  have HI := Lib.hid Try.info27
  clear h hs
  go_enter Try.func10, Try.ntmps10
  go_wp2_with fail
  go_loopw [10, 5, 7] (fun i v _ wr => OnlyR w s ns i v wr) (fun i _ _ _ => ns.length - (intOf i).toNat)
  case atStart => exact ⟨0, fun _ => False, Nat.zero_le _, rfl, OutG.nil _ _ _ _ _ _ _, fun _ h => h.elim, Below.refl _ _⟩
  case round =>
    obtain ⟨k, S1, hk, rfl, hout, hS1, hb⟩ := hrel
    have iwk : IntKind.i64.wrap ((k : Int) + 1) = (k : Int) + 1 := IntWalk.i64_in _ ⟨by omega, by omega⟩
    obtain ⟨A1, c1, rfl⟩ := hout.form
    have OUT := Lib.hid hout
    have BR := Lib.hid hb
    have sr : w.heap.size ≤ wr.heap.size := hb.size
    clear hout hb
    by_cases hkn : k < ns.length
    · have k0 : (0 : Int) ≤ (k : Int) := by omega
      have k1 : (k : Int) < (ns.length : Int) := by omega
      obtain ⟨ad, q, e, x, y, rfl, he, hx, hce⟩ := NRow.ev (H.out.below BR.out) hkn
      obtain ⟨a0, a1, a2, a3, a4, a5, a6, a7, a8, a9, a10, a11, a12⟩ := hce
      have hsm := HS.out (q, e) (List.mem_of_getElem? he)
      have OS := Lib.hid (only_snoc s ns k (q, e) he)
      obtain ⟨X1, x1, rfl, _⟩ := hx.1.len
      obtain ⟨Y1, y1, rfl, _⟩ := hx.2.len
      have EX := Lib.hid (hx.frm (Frm.of_below (S := fun _ => False) ((Below.refl wr.heap.size wr).alloc (Nat.le_refl _) (.cells #[.int .i64 q, .int .i64 e.kind, .int .i64 e.n, .slice X1 e.data.length x1, .int .i64 e.pk.kind, .int .i64 e.pk.path, .int .i64 e.pk.number, .int .i64 e.pk.of_, .int .i64 e.pk.from_, .slice Y1 e.pk.data.length y1, .bool e.pk.fin, .int .i64 e.pk.seen, .int .i64 e.pk.limit] 37))) (fun _ _ h => h))
      clear he hx
      by_cases hq : q = s
      · subst hq
        go_wp2_with fail
        refine (own_any _ S e _ _ EX.out hsm.1 hsm.2).mono ?_
        rintro r w2 ⟨x2, y2, rfl, hx2, hb2⟩
        have K12 : Below wr.heap.size wr w2 := ((Below.refl wr.heap.size wr).alloc (Nat.le_refl _) _).trans (hb2.mono (by simp))
        obtain ⟨vs, p1, p2, p3, p4⟩ := OUT.out
        have OW := Lib.hid (own_frm p1 (Frm.of_below (S := fun _ => False) K12) (fun _ _ h => h))
        have hol : (only q (ns.take k)).length ≤ 100000 := by have := only_length q (ns.take k); rw [List.length_take] at this; omega
        have EX2 := Lib.hid hx2
        have KK := Lib.hid K12
        have P1 := Lib.hid p1
        have P2 := Lib.hid p2
        have P3 := Lib.hid p3
        have P4 := Lib.hid p4
        have sz2 : w.heap.size ≤ w2.heap.size := Nat.le_trans sr K12.size
        clear p1 p2 p3 p4 hx2 hb2 K12
        go_wp2_with (at_builtin; refine wp_app w.heap.size rfl _ _ 28 27 _ 12 128 rfl Try.underlying28 HI.out rfl (by omega) (by omega) rfl rfl (OW.out.alloc _) (Sl.boxk w2 27 12 (ecells e (x2, y2)) _ (by simp) rfl (EV.one EX2.out)) (by omega) (Nat.le_trans sz2 (by simp)) ?_; intro v3 w3 hown hfr hat)
        have hnew := OutG.snoc liesE (T' := fun j => (wr.alloc (.cells #[.int .i64 q, .int .i64 e.kind, .int .i64 e.n, .slice X1 e.data.length x1, .int .i64 e.pk.kind, .int .i64 e.pk.path, .int .i64 e.pk.number, .int .i64 e.pk.of_, .int .i64 e.pk.from_, .slice Y1 e.pk.data.length y1, .bool e.pk.fin, .int .i64 e.pk.seen, .int .i64 e.pk.limit] 37)).heap.size ≤ j) P1.out P2.out P3.out P4.out KK.out EX2.out (fun j hj => Nat.le_trans (by simp) hj) hfr hown hat
        have hb3 : Below w.heap.size w w3 := Frm.below ((BR.out.trans (KK.out.mono sr)).alloc sz2 _) hfr (Nat.le_trans sz2 (by simp)) (fun j hj => (P1.out.lt j hj).1)
        have mk : ∀ S3, OutG ecells 12 27 (fun S w (e : Ev) x => EV w S e x) w.heap.size S3 w3 v3 (only q (ns.take k) ++ [e]) → (∀ j, S3 j → w.heap.size ≤ j) → ∀ i, i = Value.int .i64 ((k + 1 : Nat) : Int) → OnlyR w q ns i v3 w3 := fun S3 h1 h2 i hi => ⟨k + 1, S3, hkn, hi, by rw [OS.out]; simp only [if_true]; exact h1, h2, hb3⟩
        have REL := Lib.hid (mk _ hnew (fun j hj => by
          rcases hj with hj | hj
          · exact hS1 j hj.1
          · exact Nat.le_trans sr (Nat.le_trans (by simp) hj.1)))
        clear hnew hb3 hown hfr hat mk
        try go_wp2_with fail
        go_roundw
        case rel => exact REL.out _ (by go_num)
        case measure => simp [intOf]; omega
      · have hq2 : (q == s) = false := by simpa using hq
        go_wp2_with fail
        go_roundw
        case rel =>
          refine ⟨k + 1, S1, by omega, by go_num, ?_, hS1, BR.out.alloc sr _⟩
          rw [OS.out, if_neg hq]
          exact OUT.out.below liesE ((Below.refl _ _).alloc (Nat.le_refl _) _)
        case measure => simp [intOf]; omega
    · have k1 : ¬ (k : Int) < (ns.length : Int) := by omega
      obtain rfl : k = ns.length := by omega
      go_wp2_with fail
      go_ret
      refine ⟨_, S1, rfl, ?_, BR.out⟩
      have := OUT.out
      rw [List.take_length] at this
      exact this.row (fun a b hab => EV.one hab)
end Go.Proofs.Ytoplcndiejpipaa
