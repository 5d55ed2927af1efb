/- Merge's own test: may a side's next event come? -/
import Derived.Test.YtoplcndiejpipaaFf
import Derived.Deep.RegionHeld3
namespace Go.Proofs.Ytoplcndiejpipaa
open Go.RowKit
set_option linter.unusedVariables false
set_option linter.unusedSimpArgs false

/-- The three things that Join keeps. -/
structure JB (w : World) (gr gn gs : Nat) (va vb sa sb : Value) (n0 n1 : Nat) : Prop where
  r : Blk w gr #[va, vb] 42
  n : Blk w gn #[.int .i64 n0, .int .i64 n1] 46
  s : Blk w gs #[sa, sb] 48
theorem JB.below {w w' : World} {gr gn gs : Nat} {va vb sa sb : Value} {n0 n1 : Nat} (h : JB w gr gn gs va vb sa sb n0 n1) (k : Below w.heap.size w w') : JB w' gr gn gs va vb sa sb n0 n1 := ⟨h.r.below k, h.n.below k, h.s.below k⟩
theorem drewN_below (w : World) (n : Nat) : Below w.heap.size w (w.drewN n) := ⟨rfl, rfl, rfl, Nat.le_refl _, fun _ _ => rfl⟩
def free (a : List Ev) (n : Nat) (ps : List Pk) : Bool := match a[n]? with
  | none => false
  | some e => decide (e.kind ≠ 4 ∨ e.pk ∈ ps)

set_option maxHeartbeats 4000000 in
set_option maxRecDepth 100000 in
theorem free0_any (w : World) (S S' : Nat → Prop) (gr gn gs : Nat) (Aa Ab As At : Option Addr) (la ca lb cb ls cs lt ct n0 n1 : Nat) (a : List Ev) (ps : List Pk) (hj : JB w gr gn gs (.slice Aa la ca) (.slice Ab lb cb) (.slice As ls cs) (.slice At lt ct) n0 n1) (ha : ERow S w (.slice Aa la ca) a) (hl : a.length = la) (hp : PRow S' w (.slice At lt ct) ps) (hn : n0 ≤ 1000000) (q : Bool) (hq : free a n0 ps = q) :
    Calls Try.prog 12 #[.int .i64 0, .pointer (some ⟨gn, 0, none⟩), .pointer (some ⟨gr, 0, none⟩), .pointer (some ⟨gs, 0, none⟩)] w fun r w' => r = .returned (.bool q) ∧ Below w.heap.size w w' := by
  have r0 := hj.r.cell 0
  have m0 := hj.n.cell 0
  have s1 := hj.s.cell 1
  simp only [List.getElem?_toArray, List.getElem?_cons_zero, List.getElem?_cons_succ] at r0 m0 s1
  unfold free at hq
  by_cases hlt : n0 < la
  · have j1 : (n0 : Int) < (la : Int) := by omega
    have j0 : (0 : Int) ≤ (n0 : Int) := by omega
    obtain ⟨ad, e, x, y, rfl, he, hx, hce⟩ := ERow.ev ha (by omega : n0 < a.length)
    rw [he] at hq
    simp only at hq
    obtain ⟨X1, x1, rfl, _⟩ := hx.1.len
    obtain ⟨Y1, y1, rfl, _⟩ := hx.2.len
    obtain ⟨a0, a1, a2, a3, a4, a5, a6, a7, a8, a9, a10, a11⟩ := hce
    simp only at a0 a1 a2 a3 a4 a5 a6 a7 a8 a9 a10 a11
    have KE : Hid (∀ w', Below w.heap.size w.drew w' → w'.cell? ⟨gn, 0, none⟩ = some (.int .i64 (n0 : Nat)) ∧ w'.cell? ⟨gr, 0, none⟩ = some (.slice (some ad) la ca) ∧ w'.cell? ⟨gs, 1, none⟩ = some (.slice At lt ct) ∧ w'.cell? (ad.add (n0 * 12)) = some (.int .i64 e.kind) ∧ w'.cell? ⟨(ad.add (n0 * 12)).block, (ad.add (n0 * 12)).off + 1, none⟩ = some (.int .i64 e.n) ∧ w'.cell? ⟨(ad.add (n0 * 12)).block, (ad.add (n0 * 12)).off + 2, none⟩ = some (.slice X1 e.data.length x1) ∧ w'.cell? ⟨(ad.add (n0 * 12)).block, (ad.add (n0 * 12)).off + 3, none⟩ = some (.int .i64 e.pk.kind) ∧ w'.cell? ⟨(ad.add (n0 * 12)).block, (ad.add (n0 * 12)).off + 4, none⟩ = some (.int .i64 e.pk.path) ∧ w'.cell? ⟨(ad.add (n0 * 12)).block, (ad.add (n0 * 12)).off + 5, none⟩ = some (.int .i64 e.pk.number) ∧ w'.cell? ⟨(ad.add (n0 * 12)).block, (ad.add (n0 * 12)).off + 6, none⟩ = some (.int .i64 e.pk.of_) ∧ w'.cell? ⟨(ad.add (n0 * 12)).block, (ad.add (n0 * 12)).off + 7, none⟩ = some (.int .i64 e.pk.from_) ∧ w'.cell? ⟨(ad.add (n0 * 12)).block, (ad.add (n0 * 12)).off + 8, none⟩ = some (.slice Y1 e.pk.data.length y1) ∧ w'.cell? ⟨(ad.add (n0 * 12)).block, (ad.add (n0 * 12)).off + 9, none⟩ = some (.bool e.pk.fin) ∧ w'.cell? ⟨(ad.add (n0 * 12)).block, (ad.add (n0 * 12)).off + 10, none⟩ = some (.int .i64 e.pk.seen) ∧ w'.cell? ⟨(ad.add (n0 * 12)).block, (ad.add (n0 * 12)).off + 11, none⟩ = some (.int .i64 e.pk.limit)) := Lib.hid (fun W hW => by
      have k : Below w.heap.size w W := ⟨hW.os, hW.tape, hW.output, hW.size, hW.block⟩
      have f := fun {p : Addr} {v : Value} (h : w.cell? p = some v) => (k.cell (World.block_lt_of_cell? w p h)).trans h
      exact ⟨f m0, f r0, f s1, f a0, f a1, f a2, f a3, f a4, f a5, f a6, f a7, f a8, f a9, f a10, f a11⟩)
    have EX := Lib.hid (hx.frm ((Frm.refl (fun _ => False) w).drew) (fun _ _ h => h))
    have PP := Lib.hid (RowV.below hp (w' := w.drew) ⟨rfl, rfl, rfl, Nat.le_refl _, fun _ _ => rfl⟩ (fun a b hab => hab.frm ((Frm.refl (fun _ => False) w).drew) (fun _ _ h => h)))
    have HQ := Lib.hid hq
    have iw1 : IntKind.i64.wrap (1 - 0) = 1 := by decide
    have iw2 : IntKind.i64.wrap 1 = 1 := by decide
    have iw3 : IntKind.i64.wrap (1 + -0) = 1 := by decide
    clear ha hp hx hq hj he
    go_enter Try.func12, Try.ntmps12
    go_wp2_with fail
    go_region_held3 (fun w' => w'.cell? ⟨gn, 0, none⟩ = some (.int .i64 (n0 : Nat)) ∧ w'.cell? ⟨gr, 0, none⟩ = some (.slice (some ad) la ca) ∧ w'.cell? ⟨gs, 1, none⟩ = some (.slice At lt ct) ∧ w'.cell? (ad.add (n0 * 12)) = some (.int .i64 e.kind) ∧ w'.cell? ⟨(ad.add (n0 * 12)).block, (ad.add (n0 * 12)).off + 1, none⟩ = some (.int .i64 e.n) ∧ w'.cell? ⟨(ad.add (n0 * 12)).block, (ad.add (n0 * 12)).off + 2, none⟩ = some (.slice X1 e.data.length x1) ∧ w'.cell? ⟨(ad.add (n0 * 12)).block, (ad.add (n0 * 12)).off + 3, none⟩ = some (.int .i64 e.pk.kind) ∧ w'.cell? ⟨(ad.add (n0 * 12)).block, (ad.add (n0 * 12)).off + 4, none⟩ = some (.int .i64 e.pk.path) ∧ w'.cell? ⟨(ad.add (n0 * 12)).block, (ad.add (n0 * 12)).off + 5, none⟩ = some (.int .i64 e.pk.number) ∧ w'.cell? ⟨(ad.add (n0 * 12)).block, (ad.add (n0 * 12)).off + 6, none⟩ = some (.int .i64 e.pk.of_) ∧ w'.cell? ⟨(ad.add (n0 * 12)).block, (ad.add (n0 * 12)).off + 7, none⟩ = some (.int .i64 e.pk.from_) ∧ w'.cell? ⟨(ad.add (n0 * 12)).block, (ad.add (n0 * 12)).off + 8, none⟩ = some (.slice Y1 e.pk.data.length y1) ∧ w'.cell? ⟨(ad.add (n0 * 12)).block, (ad.add (n0 * 12)).off + 9, none⟩ = some (.bool e.pk.fin) ∧ w'.cell? ⟨(ad.add (n0 * 12)).block, (ad.add (n0 * 12)).off + 10, none⟩ = some (.int .i64 e.pk.seen) ∧ w'.cell? ⟨(ad.add (n0 * 12)).block, (ad.add (n0 * 12)).off + 11, none⟩ = some (.int .i64 e.pk.limit)) (first | go_keep | exact KE.out _ hb2) (first | (go_at_call 13; (with_reducible refine (may_at _ S S' e _ _ _ ps q HQ.out EX.out PP.out).mono ?_); rintro r w2 ⟨rfl, hb2⟩))
    all_goals
      go_wp2_with fail
      go_ret
      exact ⟨rfl, ⟨hb2.os, hb2.tape, hb2.output, hb2.size, hb2.block⟩⟩
  · have j1 : ¬ (n0 : Int) < (la : Int) := by omega
    rw [List.getElem?_eq_none (by omega)] at hq
    simp only at hq
    subst hq
    clear ha hp hj
    have jd : decide (n0 < la) = false := by simpa using hlt
    go_enter Try.func12, Try.ntmps12
    go_wp2_with fail
    go_quiet (fail)
    go_wp2_with fail
    go_ret
    exact ⟨rfl, drewN_below _ _⟩

set_option maxHeartbeats 4000000 in
set_option maxRecDepth 100000 in
theorem free1_any (w : World) (S S' : Nat → Prop) (gr gn gs : Nat) (Aa Ab As At : Option Addr) (la ca lb cb ls cs lt ct n0 n1 : Nat) (a : List Ev) (ps : List Pk) (hj : JB w gr gn gs (.slice Aa la ca) (.slice Ab lb cb) (.slice As ls cs) (.slice At lt ct) n0 n1) (ha : ERow S w (.slice Ab lb cb) a) (hl : a.length = lb) (hp : PRow S' w (.slice As ls cs) ps) (hn : n1 ≤ 1000000) (q : Bool) (hq : free a n1 ps = q) :
    Calls Try.prog 12 #[.int .i64 1, .pointer (some ⟨gn, 0, none⟩), .pointer (some ⟨gr, 0, none⟩), .pointer (some ⟨gs, 0, none⟩)] w fun r w' => r = .returned (.bool q) ∧ Below w.heap.size w w' := by
  have r1 := hj.r.cell 1
  have m1 := hj.n.cell 1
  have s0 := hj.s.cell 0
  simp only [List.getElem?_toArray, List.getElem?_cons_zero, List.getElem?_cons_succ] at r1 m1 s0
  unfold free at hq
  by_cases hlt : n1 < lb
  · have j1 : (n1 : Int) < (lb : Int) := by omega
    have j0 : (0 : Int) ≤ (n1 : Int) := by omega
    obtain ⟨ad, e, x, y, rfl, he, hx, hce⟩ := ERow.ev ha (by omega : n1 < a.length)
    rw [he] at hq
    simp only at hq
    obtain ⟨X1, x1, rfl, _⟩ := hx.1.len
    obtain ⟨Y1, y1, rfl, _⟩ := hx.2.len
    obtain ⟨a0, a1, a2, a3, a4, a5, a6, a7, a8, a9, a10, a11⟩ := hce
    simp only at a0 a1 a2 a3 a4 a5 a6 a7 a8 a9 a10 a11
    have KE : Hid (∀ w', Below w.heap.size w.drew w' → w'.cell? ⟨gn, 1, none⟩ = some (.int .i64 (n1 : Nat)) ∧ w'.cell? ⟨gr, 1, none⟩ = some (.slice (some ad) lb cb) ∧ w'.cell? ⟨gs, 0, none⟩ = some (.slice As ls cs) ∧ w'.cell? (ad.add (n1 * 12)) = some (.int .i64 e.kind) ∧ w'.cell? ⟨(ad.add (n1 * 12)).block, (ad.add (n1 * 12)).off + 1, none⟩ = some (.int .i64 e.n) ∧ w'.cell? ⟨(ad.add (n1 * 12)).block, (ad.add (n1 * 12)).off + 2, none⟩ = some (.slice X1 e.data.length x1) ∧ w'.cell? ⟨(ad.add (n1 * 12)).block, (ad.add (n1 * 12)).off + 3, none⟩ = some (.int .i64 e.pk.kind) ∧ w'.cell? ⟨(ad.add (n1 * 12)).block, (ad.add (n1 * 12)).off + 4, none⟩ = some (.int .i64 e.pk.path) ∧ w'.cell? ⟨(ad.add (n1 * 12)).block, (ad.add (n1 * 12)).off + 5, none⟩ = some (.int .i64 e.pk.number) ∧ w'.cell? ⟨(ad.add (n1 * 12)).block, (ad.add (n1 * 12)).off + 6, none⟩ = some (.int .i64 e.pk.of_) ∧ w'.cell? ⟨(ad.add (n1 * 12)).block, (ad.add (n1 * 12)).off + 7, none⟩ = some (.int .i64 e.pk.from_) ∧ w'.cell? ⟨(ad.add (n1 * 12)).block, (ad.add (n1 * 12)).off + 8, none⟩ = some (.slice Y1 e.pk.data.length y1) ∧ w'.cell? ⟨(ad.add (n1 * 12)).block, (ad.add (n1 * 12)).off + 9, none⟩ = some (.bool e.pk.fin) ∧ w'.cell? ⟨(ad.add (n1 * 12)).block, (ad.add (n1 * 12)).off + 10, none⟩ = some (.int .i64 e.pk.seen) ∧ w'.cell? ⟨(ad.add (n1 * 12)).block, (ad.add (n1 * 12)).off + 11, none⟩ = some (.int .i64 e.pk.limit)) := Lib.hid (fun W hW => by
      have k : Below w.heap.size w W := ⟨hW.os, hW.tape, hW.output, hW.size, hW.block⟩
      have f := fun {p : Addr} {v : Value} (h : w.cell? p = some v) => (k.cell (World.block_lt_of_cell? w p h)).trans h
      exact ⟨f m1, f r1, f s0, f a0, f a1, f a2, f a3, f a4, f a5, f a6, f a7, f a8, f a9, f a10, f a11⟩)
    have EX := Lib.hid (hx.frm ((Frm.refl (fun _ => False) w).drew) (fun _ _ h => h))
    have PP := Lib.hid (RowV.below hp (w' := w.drew) ⟨rfl, rfl, rfl, Nat.le_refl _, fun _ _ => rfl⟩ (fun a b hab => hab.frm ((Frm.refl (fun _ => False) w).drew) (fun _ _ h => h)))
    have HQ := Lib.hid hq
    have iw1 : IntKind.i64.wrap (1 - 1) = 0 := by decide
    have iw2 : IntKind.i64.wrap 0 = 0 := by decide
    have iw3 : IntKind.i64.wrap (1 + -1) = 0 := by decide
    clear ha hp hx hq hj he
    go_enter Try.func12, Try.ntmps12
    go_wp2_with fail
    go_region_held3 (fun w' => w'.cell? ⟨gn, 1, none⟩ = some (.int .i64 (n1 : Nat)) ∧ w'.cell? ⟨gr, 1, none⟩ = some (.slice (some ad) lb cb) ∧ w'.cell? ⟨gs, 0, none⟩ = some (.slice As ls cs) ∧ w'.cell? (ad.add (n1 * 12)) = some (.int .i64 e.kind) ∧ w'.cell? ⟨(ad.add (n1 * 12)).block, (ad.add (n1 * 12)).off + 1, none⟩ = some (.int .i64 e.n) ∧ w'.cell? ⟨(ad.add (n1 * 12)).block, (ad.add (n1 * 12)).off + 2, none⟩ = some (.slice X1 e.data.length x1) ∧ w'.cell? ⟨(ad.add (n1 * 12)).block, (ad.add (n1 * 12)).off + 3, none⟩ = some (.int .i64 e.pk.kind) ∧ w'.cell? ⟨(ad.add (n1 * 12)).block, (ad.add (n1 * 12)).off + 4, none⟩ = some (.int .i64 e.pk.path) ∧ w'.cell? ⟨(ad.add (n1 * 12)).block, (ad.add (n1 * 12)).off + 5, none⟩ = some (.int .i64 e.pk.number) ∧ w'.cell? ⟨(ad.add (n1 * 12)).block, (ad.add (n1 * 12)).off + 6, none⟩ = some (.int .i64 e.pk.of_) ∧ w'.cell? ⟨(ad.add (n1 * 12)).block, (ad.add (n1 * 12)).off + 7, none⟩ = some (.int .i64 e.pk.from_) ∧ w'.cell? ⟨(ad.add (n1 * 12)).block, (ad.add (n1 * 12)).off + 8, none⟩ = some (.slice Y1 e.pk.data.length y1) ∧ w'.cell? ⟨(ad.add (n1 * 12)).block, (ad.add (n1 * 12)).off + 9, none⟩ = some (.bool e.pk.fin) ∧ w'.cell? ⟨(ad.add (n1 * 12)).block, (ad.add (n1 * 12)).off + 10, none⟩ = some (.int .i64 e.pk.seen) ∧ w'.cell? ⟨(ad.add (n1 * 12)).block, (ad.add (n1 * 12)).off + 11, none⟩ = some (.int .i64 e.pk.limit)) (first | go_keep | exact KE.out _ hb2) (first | (go_at_call 13; (with_reducible refine (may_at _ S S' e _ _ _ ps q HQ.out EX.out PP.out).mono ?_); rintro r w2 ⟨rfl, hb2⟩))
    all_goals
      go_wp2_with fail
      go_ret
      exact ⟨rfl, ⟨hb2.os, hb2.tape, hb2.output, hb2.size, hb2.block⟩⟩
  · have j1 : ¬ (n1 : Int) < (lb : Int) := by omega
    rw [List.getElem?_eq_none (by omega)] at hq
    simp only at hq
    subst hq
    clear ha hp hj
    have jd : decide (n1 < lb) = false := by simpa using hlt
    go_enter Try.func12, Try.ntmps12
    go_wp2_with fail
    go_quiet (fail)
    go_wp2_with fail
    go_ret
    exact ⟨rfl, drewN_below _ _⟩
end Go.Proofs.Ytoplcndiejpipaa
