/- Parts of the walk: Fe, Ff, Fg. -/
import Derived.Test.YtdneakejlbabeaaGreatM00
import Derived.Test.YtdneakejlbabeaaGreatM02
import Derived.Deep.RegionHeld3
namespace Go.Proofs.YtdneakejlbabeaaGreat
open Go.RowKit
set_option linter.unusedVariables false
set_option linter.unusedSimpArgs false
section
/-- The texts of a row's events are not too long. -/
def Small (ns : List (Int × Ev)) : Prop := ∀ y ∈ ns, y.2.data.length ≤ 2000000 ∧ y.2.pk.data.length ≤ 2000000
/-- A new row of events. -/
def NewE (w : World) (es : List Ev) (r : Ending) (w' : World) : Prop := ∃ v S, r = .returned v ∧ ERow S w' v es ∧ Below w.heap.size w w'
def OnlyR (w : World) (s : Int) (ns : List (Int × Ev)) (i v : Value) (wr : World) : Prop :=
 ∃ (k : Nat) (S : Nat → Prop), k ≤ ns.length ∧ i = .int .i64 k ∧ OutG ecells 12 29 (fun S w (e : Ev) x => EV w S e x) w.heap.size S wr v (only s (ns.take k)) ∧ (∀ j, S j → w.heap.size ≤ j) ∧ Below w.heap.size w wr
set_option maxHeartbeats 4000000 in
set_option maxRecDepth 100000 in
theorem only_any (w : World) (S : Nat → Prop) (v : Value) (ns : List (Int × Ev)) (s : Int) (h : NRow S w v ns) (hn : ns.length ≤ 1000000) (hs : Small ns) :
  Calls Tryz.prog 15 #[v, .int .i64 s] w fun r w' => NewE w (only s ns) r w' := by
 obtain ⟨A, c, rfl, hc1, hc2⟩ := h.len
 have H := hid h
 have HS := hid hs
 have HI := hid Tryz.info29
 clear h hs
 go_enter Tryz.func15, Tryz.ntmps15
 go_wp2_with fail
 go_loopw [10, 5, 7] (fun i v _ wr => OnlyR w s ns i v wr) (fun i _ _ _ => ns.length - (intOf i).toNat)
 case atStart => exact ⟨0, fun _ => False, Nat.zero_le _, rfl, OutG.nil _ _ _ _ _ _ _, fun _ h => h.elim, Below.refl _ _⟩
 case round =>
  obtain ⟨k, S1, hk, rfl, hout, hS1, hb⟩ := hrel
  have iwk : IntKind.i64.wrap ((k : Int) + 1) = (k : Int) + 1 := iX
  obtain ⟨A1, c1, rfl⟩ := hout.form
  have OUT := hid hout
  have BR := hid hb
  have sr : w.heap.size ≤ wr.heap.size := hb.size
  clear hout hb
  by_cases hkn : k < ns.length
  ·have k0 : (0 : Int) ≤ (k : Int) := by omega
   have k1 : (k : Int) < (ns.length : Int) := by omega
   obtain ⟨ad, q, e, x, y, rfl, he, hx, hce⟩ := NRow.ev (H.out.below BR.out) hkn
   obtain ⟨a0, a1, a2, a3, a4, a5, a6, a7, a8, a9, a10, a11, a12⟩ := hce
   have hsm := HS.out (q, e) (List.mem_of_getElem? he)
   have OS := hid (only_snoc s ns k (q, e) he)
   obtain ⟨X1, x1, rfl, _⟩ := hx.1.len
   obtain ⟨Y1, y1, rfl, _⟩ := hx.2.len
   have EX := hid (hx.frm (Frm.of_below (S := fun _ => False) ((Below.refl wr.heap.size wr).alloc (Nat.le_refl _) (.cells #[.int .i64 q, .int .i64 e.kind, .int .i64 e.n, .slice X1 e.data.length x1, .int .i64 e.pk.kind, .int .i64 e.pk.path, .int .i64 e.pk.number, .int .i64 e.pk.of_, .int .i64 e.pk.from_, .slice Y1 e.pk.data.length y1, .bool e.pk.fin, .int .i64 e.pk.seen, .int .i64 e.pk.limit] 52))) (fun _ _ h => h))
   clear he hx
   by_cases hq : q = s
   ·subst hq
    go_wp2_with fail
    refine (own_any _ S e _ _ EX.out hsm.1 hsm.2).mono ?_
    rintro r w2 ⟨x2, y2, rfl, hx2, hb2⟩
    have K12 : Below wr.heap.size wr w2 := ((Below.refl wr.heap.size wr).alloc (Nat.le_refl _) _).trans (hb2.mono (by simp))
    obtain ⟨vs, p1, p2, p3, p4⟩ := OUT.out
    have OW := hid (own_frm p1 (Frm.of_below (S := fun _ => False) K12) (fun _ _ h => h))
    have hol : (only q (ns.take k)).length ≤ 1000000 := by have := only_length q (ns.take k); rw [List.length_take] at this; omega
    have EX2 := hid hx2
    have KK := hid K12
    have P1 := hid p1
    have P2 := hid p2
    have P3 := hid p3
    have P4 := hid p4
    have sz2 : w.heap.size ≤ w2.heap.size := Nat.le_trans sr K12.size
    clear p1 p2 p3 p4 hx2 hb2 K12
    go_wp2_with (at_builtin; refine wp_app w.heap.size rfl _ _ 30 29 _ 12 128 rfl Tryz.underlying30 HI.out rfl (by omega) (by omega) rfl rfl (OW.out.alloc _) (Sl.boxk w2 29 12 (ecells e (x2, y2)) _ (by simp) rfl (EV.one EX2.out)) (by omega) (Nat.le_trans sz2 (by simp)) ?_; intro v3 w3 hown hfr hat)
    have hnew := OutG.snoc liesE (T' := fun j => (wr.alloc (.cells #[.int .i64 q, .int .i64 e.kind, .int .i64 e.n, .slice X1 e.data.length x1, .int .i64 e.pk.kind, .int .i64 e.pk.path, .int .i64 e.pk.number, .int .i64 e.pk.of_, .int .i64 e.pk.from_, .slice Y1 e.pk.data.length y1, .bool e.pk.fin, .int .i64 e.pk.seen, .int .i64 e.pk.limit] 52)).heap.size ≤ j) P1.out P2.out P3.out P4.out KK.out EX2.out (fun j hj => Nat.le_trans (by simp) hj) hfr hown hat
    have hb3 : Below w.heap.size w w3 := Frm.below ((BR.out.trans (KK.out.mono sr)).alloc sz2 _) hfr (Nat.le_trans sz2 (by simp)) (fun j hj => (P1.out.lt j hj).1)
    have mk : ∀ S3, OutG ecells 12 29 (fun S w (e : Ev) x => EV w S e x) w.heap.size S3 w3 v3 (only q (ns.take k) ++ [e]) → (∀ j, S3 j → w.heap.size ≤ j) → ∀ i, i = Value.int .i64 ((k + 1 : Nat) : Int) → OnlyR w q ns i v3 w3 := fun S3 h1 h2 i hi => ⟨k + 1, S3, hkn, hi, by rw [OS.out]; simp only [if_true]; exact h1, h2, hb3⟩
    have REL := hid (mk _ hnew (fun j hj => by
     rcases hj with hj | hj
     ·exact hS1 j hj.1
     ·exact Nat.le_trans sr (Nat.le_trans (by simp) hj.1)))
    clear hnew hb3 hown hfr hat mk
    try go_wp2_with fail
    go_roundw
    case rel => exact REL.out _ (by go_num)
    case measure => simp [intOf]; omega
   ·have hq2 : (q == s) = false := by simpa using hq
    go_wp2_with fail
    go_roundw
    case rel =>
     refine ⟨k + 1, S1, by omega, by go_num, ?_, hS1, BR.out.alloc sr _⟩
     rw [OS.out, if_neg hq]
     exact OUT.out.below liesE (ba)
    case measure => simp [intOf]; omega
  ·have k1 : ¬ (k : Int) < (ns.length : Int) := by omega
   obtain rfl : k = ns.length := by omega
   go_wp2_with fail
   go_ret
   refine ⟨_, S1, rfl, ?_, BR.out⟩
   have := OUT.out
   rw [List.take_length] at this
   exact this.row (fun a b hab => EV.one hab)
end

section
/-- The block of an event. -/
def EBlk (w : World) (S : Nat → Prop) (g : Nat) (e : Ev) : Prop := ∃ x y, Blk w g (ecells e (x, y)).toArray 29 ∧ EV w S e (x, y)
theorem EBlk.below {S : Nat → Prop} {w w' : World} {g : Nat} {e : Ev} (h : EBlk w S g e) (k : Below w.heap.size w w') : EBlk w' S g e := by
 obtain ⟨x, y, h1, h2⟩ := h
 exact ⟨x, y, h1.below k, h2.1.below k, h2.2.below k⟩
set_option maxHeartbeats 1000000 in
set_option maxRecDepth 100000 in
theorem may1_any (w : World) (S S' : Nat → Prop) (g : Nat) (e : Ev) (p : Pk) (v : Value) (b : Bool) (hb : decide (p = e.pk) = b) (h : EBlk w S g e) (hp : BV w S' v p.data) :
  Calls Tryz.prog 35 #[pagg p v, .pointer (some ⟨g, 0, none⟩)] w fun r w' => r = .returned (.bool b) ∧ Below w.heap.size w w' := by
 obtain ⟨x, y, hbk, hx⟩ := h
 obtain ⟨A, c, rfl, _⟩ := hx.2.len
 obtain ⟨B, d, rfl, _⟩ := hp.len
 have k0 := (Below.refl w.heap.size w).alloc (Nat.le_refl _) (.cells #[.int .i64 p.kind, .int .i64 p.path, .int .i64 p.number, .int .i64 p.of_, .int .i64 p.from_, .slice B p.data.length d, .bool p.fin, .int .i64 p.seen, .int .i64 p.limit] 27)
 have B0 := hid k0
 have HX := hid (hx.2.below k0)
 have HP := hid (hp.below k0)
 have hb2 := hbk.below k0
 have c3 := hb2.cell 3
 have c4 := hb2.cell 4
 have c5 := hb2.cell 5
 have c6 := hb2.cell 6
 have c7 := hb2.cell 7
 have c8 := hb2.cell 8
 have c9 := hb2.cell 9
 have c10 := hb2.cell 10
 have c11 := hb2.cell 11
 simp only [ecells, gA, gZ, gC] at c3 c4 c5 c6 c7 c8 c9 c10 c11
 have HB := hid hb
 clear hbk hx hp k0 hb2 hb
 go_enter Tryz.func35, Tryz.ntmps35
 go_wp2_with fail
 refine (psame_at _ S' S p e.pk _ _ b HB.out HP.out HX.out).mono ?_
 rintro r w2 ⟨rfl, hb2⟩
 go_wp2_with fail
 go_ret
 exact ⟨rfl, B0.out.trans (hb2.mono B0.out.size)⟩
abbrev PRow (S : Nat → Prop) (w : World) (v : Value) (ps : List Pk) : Prop := RowV pcells 9 (fun w p x => BV w S x p.data) w v ps
theorem PRow.below {S : Nat → Prop} {w w' : World} {v : Value} {ps : List Pk} (h : PRow S w v ps) (k : Below w.heap.size w w') : PRow S w' v ps :=
 RowV.below h k (fun a b hab => hab.below k)
def PCells (w : World) (p : Addr) (k : Pk) (x : Value) : Prop :=
 w.cell? p = some (.int .i64 k.kind) ∧ w.cell? ⟨p.block, p.off + 1, none⟩ = some (.int .i64 k.path) ∧ w.cell? ⟨p.block, p.off + 2, none⟩ = some (.int .i64 k.number) ∧ w.cell? ⟨p.block, p.off + 3, none⟩ = some (.int .i64 k.of_) ∧ w.cell? ⟨p.block, p.off + 4, none⟩ = some (.int .i64 k.from_) ∧ w.cell? ⟨p.block, p.off + 5, none⟩ = some x ∧
  w.cell? ⟨p.block, p.off + 6, none⟩ = some (.bool k.fin) ∧ w.cell? ⟨p.block, p.off + 7, none⟩ = some (.int .i64 k.seen) ∧ w.cell? ⟨p.block, p.off + 8, none⟩ = some (.int .i64 k.limit)
theorem PRow.pk {S : Nat → Prop} {w : World} {A : Option Addr} {n c : Nat} {ps : List Pk} (h : PRow S w (.slice A n c) ps) {i : Nat} (hi : i < ps.length) : ∃ ad p x, A = some ad ∧ ps[i]? = some p ∧ BV w S x p.data ∧ PCells w (ad.add (i * 9)) p x := by
 obtain ⟨ad, p, x, rfl, he, hx, hc⟩ := RowV.at_ h (by omega) pcells_len hi
 have h0 := hc 0 _ rfl
 rw [addr_zero] at h0
 have g := fun (j : Nat) (hj : j ≠ 0) (u : Value) (hu : (pcells p x)[j]? = some u) => by
  have := hc j u hu
  rw [addr_pos _ _ hj] at this
  exact this
 exact ⟨ad, p, x, rfl, he, hx, h0, g 1 (by omega) _ rfl, g 2 (by omega) _ rfl, g 3 (by omega) _ rfl, g 4 (by omega) _ rfl, g 5 (by omega) _ rfl, g 6 (by omega) _ rfl, g 7 (by omega) _ rfl, g 8 (by omega) _ rfl⟩
/-- Found, or not. -/
def FoundR (b : Bool) (w : World) (r : Ending) (w' : World) : Prop := ∃ z : Int, r = .returned (.int .i64 z) ∧ (decide (0 ≤ z) = b) ∧ Below w.heap.size w w'
set_option maxHeartbeats 1000000 in
set_option maxRecDepth 100000 in
theorem idx_any (w : World) (S S' : Nat → Prop) (g : Nat) (e : Ev) (v : Value) (ps : List Pk) (h : EBlk w S g e) (hp : PRow S' w v ps) :
  Calls Tryz.prog 52 #[v, .func (.func 35) #[] #[.pointer (some ⟨g, 0, none⟩)]] w fun r w' => FoundR (decide (e.pk ∈ ps)) w r w' := by
 obtain ⟨A, c, rfl, hc1, hc2⟩ := hp.len
 unfold maxLen at hc2
 have H := hid h
 have P := hid hp
 clear h hp
 go_enter Tryz.func52, Tryz.ntmps52
 go_wp2_with fail
 go_loopw [8, 5] (fun i _ wr => ∃ k : Nat, k ≤ ps.length ∧ i = .int .i64 k ∧ e.pk ∉ ps.take k ∧ Below w.heap.size w wr) (fun i _ _ => ps.length - (intOf i).toNat)
 case atStart => exact ⟨0, Nat.zero_le _, rfl, by simp, Below.refl _ _⟩
 case round =>
  obtain ⟨k, hk, rfl, hno, hb⟩ := hrel
  have NO := hid hno
  have BR := hid hb
  have sr : w.heap.size ≤ wr.heap.size := hb.size
  clear hno hb
  by_cases hkn : k < ps.length
  ·have k0 : (0 : Int) ≤ (k : Int) := by omega
   have k1 : (k : Int) < (ps.length : Int) := by omega
   have iwk : IntKind.i64.wrap ((k : Int) + 1) = (k : Int) + 1 := iX
   obtain ⟨ad, p, x, rfl, he, hx, hce⟩ := PRow.pk (P.out.below BR.out) hkn
   obtain ⟨a0, a1, a2, a3, a4, a5, a6, a7, a8⟩ := hce
   obtain ⟨b, hb⟩ : ∃ b, decide (p = e.pk) = b := ⟨_, rfl⟩
   have HB := hid hb
   have HE := hid he
   have HX := hid hx
   have TK : Hid (ps.take (k + 1) = ps.take k ++ [p]) := hid (by rw [List.take_add_one, he]; rfl)
   obtain ⟨X1, x1, rfl, _⟩ := hx.len
   clear hb he hx
   go_wp2_with fail
   refine (may1_any wr S S' g e p _ b HB.out (H.out.below BR.out) HX.out).mono ?_
   rintro r w2 ⟨rfl, hb2⟩
   have B2 := hid (BR.out.trans (hb2.mono sr))
   clear hb2
   cases b
   ·go_wp2_with fail
    go_roundw
    case rel =>
     refine ⟨k + 1, by omega, by go_num, ?_, B2.out⟩
     rw [TK.out, List.mem_append]
     rintro (h | h)
     ·exact NO.out h
     ·have := HB.out
      simp at h this
      exact this h.symm
    case measure => simp [intOf]; omega
   ·go_wp2_with fail
    go_ret
    refine ⟨_, rfl, ?_, B2.out⟩
    have h1 := HB.out
    simp at h1
    have h2 : e.pk ∈ ps := h1 ▸ List.mem_of_getElem? HE.out
    simp [h2]
  ·have k1 : ¬ (k : Int) < (ps.length : Int) := by omega
   go_wp2_with fail
   go_ret
   refine ⟨_, rfl, ?_, BR.out⟩
   have := NO.out
   rw [List.take_of_length_le (by omega)] at this
   simp [this]
set_option maxHeartbeats 1000000 in
set_option maxRecDepth 100000 in
theorem cont_any (w : World) (S S' : Nat → Prop) (g : Nat) (e : Ev) (v : Value) (ps : List Pk) (h : EBlk w S g e) (hp : PRow S' w v ps) :
  Calls Tryz.prog 34 #[v, .func (.func 35) #[] #[.pointer (some ⟨g, 0, none⟩)]] w fun r w' => r = .returned (.bool (decide (e.pk ∈ ps))) ∧ Below w.heap.size w w' := by
 obtain ⟨A, c, rfl, _⟩ := hp.len
 have H := hid h
 have P := hid hp
 clear h hp
 obtain ⟨b, hb⟩ : ∃ b, decide (e.pk ∈ ps) = b := ⟨_, rfl⟩
 rw [hb]
 have HB := hid hb
 clear hb
 go_enter Tryz.func34, Tryz.ntmps34
 go_wp2_with fail
 refine (idx_any w S S' g e _ ps H.out P.out).mono ?_
 rintro r w2 ⟨z, rfl, hz, hb2⟩
 rw [HB.out] at hz
 have HZ := hid hz
 clear hz
 go_wp2_with fail
 go_ret
 exact ⟨congrArg (fun b => Ending.returned (.bool b)) HZ.out, hb2⟩
set_option maxHeartbeats 1000000 in
set_option maxRecDepth 100000 in
theorem may_any (w : World) (S S' : Nat → Prop) (e : Ev) (x y v : Value) (ps : List Pk) (hx : EV w S e (x, y)) (hp : PRow S' w v ps) :
  Calls Tryz.prog 27 #[eagg e x y, v] w fun r w' => r = .returned (.bool (decide (e.kind ≠ 4 ∨ e.pk ∈ ps))) ∧ Below w.heap.size w w' := by
 obtain ⟨A, c, rfl, _⟩ := hx.1.len
 obtain ⟨B, d, rfl, _⟩ := hx.2.len
 have k0 := (Below.refl w.heap.size w).alloc (Nat.le_refl _) (.cells #[.int .i64 e.kind, .int .i64 e.n, .slice A e.data.length c, .int .i64 e.pk.kind, .int .i64 e.pk.path, .int .i64 e.pk.number, .int .i64 e.pk.of_, .int .i64 e.pk.from_, .slice B e.pk.data.length d, .bool e.pk.fin, .int .i64 e.pk.seen, .int .i64 e.pk.limit] 29)
 have EB : Hid (EBlk (w.alloc (.cells #[.int .i64 e.kind, .int .i64 e.n, .slice A e.data.length c, .int .i64 e.pk.kind, .int .i64 e.pk.path, .int .i64 e.pk.number, .int .i64 e.pk.of_, .int .i64 e.pk.from_, .slice B e.pk.data.length d, .bool e.pk.fin, .int .i64 e.pk.seen, .int .i64 e.pk.limit] 29)) S w.heap.size e) := hid ⟨_, _, Blk.new w _ 29, hx.1.below k0, hx.2.below k0⟩
 have P := hid (hp.below k0)
 have B0 := hid k0
 clear hx hp k0
 by_cases h4 : e.kind = 4
 ·have hk : (e.kind != 4) = false := by simpa using h4
  have H4 := hid h4
  clear h4
  go_enter Tryz.func27, Tryz.ntmps27
  go_wp2_with fail
  refine (cont_any _ S S' w.heap.size e v ps EB.out P.out).mono ?_
  rintro r w2 ⟨rfl, hb2⟩
  go_wp2_with fail
  go_ret
  exact ⟨by simp [H4.out], B0.out.trans (hb2.mono B0.out.size)⟩
 ·have hk : (e.kind != 4) = true := by simpa using h4
  have H4 := hid h4
  clear h4
  go_enter Tryz.func27, Tryz.ntmps27
  go_wp2_with fail
  go_ret
  exact ⟨by simp [H4.out], B0.out⟩
theorem may_at (w : World) (S S' : Nat → Prop) (e : Ev) (x y v : Value) (ps : List Pk) (b : Bool) (hb : decide (e.kind ≠ 4 ∨ e.pk ∈ ps) = b) (hx : EV w S e (x, y)) (hp : PRow S' w v ps) :
  Calls Tryz.prog 27 #[eagg e x y, v] w fun r w' => r = .returned (.bool b) ∧ Below w.heap.size w w' := hb ▸ may_any w S S' e x y v ps hx hp
end

section
/-- The three things that Join keeps. -/
structure JB (w : World) (gr gn gs : Nat) (va vb sa sb : Value) (n0 n1 : Nat) : Prop where
 r : Blk w gr #[va, vb] 31
 n : Blk w gn #[.int .i64 n0, .int .i64 n1] 50
 s : Blk w gs #[sa, sb] 92
theorem JB.below {w w' : World} {gr gn gs : Nat} {va vb sa sb : Value} {n0 n1 : Nat} (h : JB w gr gn gs va vb sa sb n0 n1) (k : Below w.heap.size w w') : JB w' gr gn gs va vb sa sb n0 n1 := ⟨h.r.below k, h.n.below k, h.s.below k⟩
theorem drewN_below (w : World) (n : Nat) : Below w.heap.size w (w.drewN n) := ⟨rfl, rfl, rfl, Nat.le_refl _, fun _ _ => rfl⟩
def free (a : List Ev) (n : Nat) (ps : List Pk) : Bool := match a[n]? with
 | none => false
 | some e => decide (e.kind ≠ 4 ∨ e.pk ∈ ps)
set_option maxHeartbeats 4000000 in
set_option maxRecDepth 100000 in
theorem free0_any (w : World) (S S' : Nat → Prop) (gr gn gs : Nat) (Aa Ab As At : Option Addr) (la ca lb cb ls cs lt ct n0 n1 : Nat) (a : List Ev) (ps : List Pk) (hj : JB w gr gn gs (.slice Aa la ca) (.slice Ab lb cb) (.slice As ls cs) (.slice At lt ct) n0 n1) (ha : ERow S w (.slice Aa la ca) a) (hl : a.length = la) (hp : PRow S' w (.slice At lt ct) ps) (hn : n0 ≤ 1000000) (q : Bool) (hq : free a n0 ps = q) :
  Calls Tryz.prog 26 #[.int .i64 0, .pointer (some ⟨gn, 0, none⟩), .pointer (some ⟨gr, 0, none⟩), .pointer (some ⟨gs, 0, none⟩)] w fun r w' => r = .returned (.bool q) ∧ Below w.heap.size w w' := by
 have r0 := hj.r.cell 0
 have m0 := hj.n.cell 0
 have s1 := hj.s.cell 1
 simp only [gA, gZ, gC] at r0 m0 s1
 unfold free at hq
 by_cases hlt : n0 < la
 ·have j1 : (n0 : Int) < (la : Int) := by omega
  have j0 : (0 : Int) ≤ (n0 : Int) := by omega
  obtain ⟨ad, e, x, y, rfl, he, hx, hce⟩ := ERow.ev ha (by omega : n0 < a.length)
  rw [he] at hq
  simp only at hq
  obtain ⟨X1, x1, rfl, _⟩ := hx.1.len
  obtain ⟨Y1, y1, rfl, _⟩ := hx.2.len
  obtain ⟨a0, a1, a2, a3, a4, a5, a6, a7, a8, a9, a10, a11⟩ := hce
  simp only at a0 a1 a2 a3 a4 a5 a6 a7 a8 a9 a10 a11
  have KE : Hid (∀ w', Below w.heap.size w.drew w' → w'.cell? ⟨gn, 0, none⟩ = some (.int .i64 (n0 : Nat)) ∧ w'.cell? ⟨gr, 0, none⟩ = some (.slice (some ad) la ca) ∧ w'.cell? ⟨gs, 1, none⟩ = some (.slice At lt ct) ∧ w'.cell? (ad.add (n0 * 12)) = some (.int .i64 e.kind) ∧ w'.cell? ⟨(ad.add (n0 * 12)).block, (ad.add (n0 * 12)).off + 1, none⟩ = some (.int .i64 e.n) ∧ w'.cell? ⟨(ad.add (n0 * 12)).block, (ad.add (n0 * 12)).off + 2, none⟩ = some (.slice X1 e.data.length x1) ∧ w'.cell? ⟨(ad.add (n0 * 12)).block, (ad.add (n0 * 12)).off + 3, none⟩ = some (.int .i64 e.pk.kind) ∧ w'.cell? ⟨(ad.add (n0 * 12)).block, (ad.add (n0 * 12)).off + 4, none⟩ = some (.int .i64 e.pk.path) ∧ w'.cell? ⟨(ad.add (n0 * 12)).block, (ad.add (n0 * 12)).off + 5, none⟩ = some (.int .i64 e.pk.number) ∧ w'.cell? ⟨(ad.add (n0 * 12)).block, (ad.add (n0 * 12)).off + 6, none⟩ = some (.int .i64 e.pk.of_) ∧ w'.cell? ⟨(ad.add (n0 * 12)).block, (ad.add (n0 * 12)).off + 7, none⟩ = some (.int .i64 e.pk.from_) ∧ w'.cell? ⟨(ad.add (n0 * 12)).block, (ad.add (n0 * 12)).off + 8, none⟩ = some (.slice Y1 e.pk.data.length y1) ∧ w'.cell? ⟨(ad.add (n0 * 12)).block, (ad.add (n0 * 12)).off + 9, none⟩ = some (.bool e.pk.fin) ∧ w'.cell? ⟨(ad.add (n0 * 12)).block, (ad.add (n0 * 12)).off + 10, none⟩ = some (.int .i64 e.pk.seen) ∧ w'.cell? ⟨(ad.add (n0 * 12)).block, (ad.add (n0 * 12)).off + 11, none⟩ = some (.int .i64 e.pk.limit)) := hid (fun W hW => by
   have k : Below w.heap.size w W := ⟨hW.os, hW.tape, hW.output, hW.size, hW.block⟩
   have f := fun {p : Addr} {v : Value} (h : w.cell? p = some v) => (k.cell (World.block_lt_of_cell? w p h)).trans h
   exact ⟨f m0, f r0, f s1, f a0, f a1, f a2, f a3, f a4, f a5, f a6, f a7, f a8, f a9, f a10, f a11⟩)
  have EX := hid (hx.frm ((Frm.refl (fun _ => False) w).drew) (fun _ _ h => h))
  have PP := hid (RowV.below hp (w' := w.drew) ⟨rfl, rfl, rfl, Nat.le_refl _, fun _ _ => rfl⟩ (fun a b hab => hab.frm ((Frm.refl (fun _ => False) w).drew) (fun _ _ h => h)))
  have HQ := hid hq
  have iw1 : IntKind.i64.wrap (1 - 0) = 1 := by decide
  have iw2 : IntKind.i64.wrap 1 = 1 := by decide
  have iw3 : IntKind.i64.wrap (1 + -0) = 1 := by decide
  clear ha hp hx hq hj he
  go_enter Tryz.func26, Tryz.ntmps26
  go_wp2_with fail
  go_region_held3 (fun w' => w'.cell? ⟨gn, 0, none⟩ = some (.int .i64 (n0 : Nat)) ∧ w'.cell? ⟨gr, 0, none⟩ = some (.slice (some ad) la ca) ∧ w'.cell? ⟨gs, 1, none⟩ = some (.slice At lt ct) ∧ w'.cell? (ad.add (n0 * 12)) = some (.int .i64 e.kind) ∧ w'.cell? ⟨(ad.add (n0 * 12)).block, (ad.add (n0 * 12)).off + 1, none⟩ = some (.int .i64 e.n) ∧ w'.cell? ⟨(ad.add (n0 * 12)).block, (ad.add (n0 * 12)).off + 2, none⟩ = some (.slice X1 e.data.length x1) ∧ w'.cell? ⟨(ad.add (n0 * 12)).block, (ad.add (n0 * 12)).off + 3, none⟩ = some (.int .i64 e.pk.kind) ∧ w'.cell? ⟨(ad.add (n0 * 12)).block, (ad.add (n0 * 12)).off + 4, none⟩ = some (.int .i64 e.pk.path) ∧ w'.cell? ⟨(ad.add (n0 * 12)).block, (ad.add (n0 * 12)).off + 5, none⟩ = some (.int .i64 e.pk.number) ∧ w'.cell? ⟨(ad.add (n0 * 12)).block, (ad.add (n0 * 12)).off + 6, none⟩ = some (.int .i64 e.pk.of_) ∧ w'.cell? ⟨(ad.add (n0 * 12)).block, (ad.add (n0 * 12)).off + 7, none⟩ = some (.int .i64 e.pk.from_) ∧ w'.cell? ⟨(ad.add (n0 * 12)).block, (ad.add (n0 * 12)).off + 8, none⟩ = some (.slice Y1 e.pk.data.length y1) ∧ w'.cell? ⟨(ad.add (n0 * 12)).block, (ad.add (n0 * 12)).off + 9, none⟩ = some (.bool e.pk.fin) ∧ w'.cell? ⟨(ad.add (n0 * 12)).block, (ad.add (n0 * 12)).off + 10, none⟩ = some (.int .i64 e.pk.seen) ∧ w'.cell? ⟨(ad.add (n0 * 12)).block, (ad.add (n0 * 12)).off + 11, none⟩ = some (.int .i64 e.pk.limit)) (first | go_keep | exact KE.out _ hb2) (first | (go_at_call 27; (with_reducible refine (may_at _ S S' e _ _ _ ps q HQ.out EX.out PP.out).mono ?_); rintro r w2 ⟨rfl, hb2⟩))
  all_goals
   go_wp2_with fail
   go_ret
   exact ⟨rfl, ⟨hb2.os, hb2.tape, hb2.output, hb2.size, hb2.block⟩⟩
 ·have j1 : ¬ (n0 : Int) < (la : Int) := by omega
  rw [List.getElem?_eq_none (by omega)] at hq
  simp only at hq
  subst hq
  clear ha hp hj
  have jd : decide (n0 < la) = false := by simpa using hlt
  go_enter Tryz.func26, Tryz.ntmps26
  go_wp2_with fail
  go_quiet (fail)
  go_wp2_with fail
  go_ret
  exact ⟨rfl, drewN_below _ _⟩
set_option maxHeartbeats 4000000 in
set_option maxRecDepth 100000 in
theorem free1_any (w : World) (S S' : Nat → Prop) (gr gn gs : Nat) (Aa Ab As At : Option Addr) (la ca lb cb ls cs lt ct n0 n1 : Nat) (a : List Ev) (ps : List Pk) (hj : JB w gr gn gs (.slice Aa la ca) (.slice Ab lb cb) (.slice As ls cs) (.slice At lt ct) n0 n1) (ha : ERow S w (.slice Ab lb cb) a) (hl : a.length = lb) (hp : PRow S' w (.slice As ls cs) ps) (hn : n1 ≤ 1000000) (q : Bool) (hq : free a n1 ps = q) :
  Calls Tryz.prog 26 #[.int .i64 1, .pointer (some ⟨gn, 0, none⟩), .pointer (some ⟨gr, 0, none⟩), .pointer (some ⟨gs, 0, none⟩)] w fun r w' => r = .returned (.bool q) ∧ Below w.heap.size w w' := by
 have r1 := hj.r.cell 1
 have m1 := hj.n.cell 1
 have s0 := hj.s.cell 0
 simp only [gA, gZ, gC] at r1 m1 s0
 unfold free at hq
 by_cases hlt : n1 < lb
 ·have j1 : (n1 : Int) < (lb : Int) := by omega
  have j0 : (0 : Int) ≤ (n1 : Int) := by omega
  obtain ⟨ad, e, x, y, rfl, he, hx, hce⟩ := ERow.ev ha (by omega : n1 < a.length)
  rw [he] at hq
  simp only at hq
  obtain ⟨X1, x1, rfl, _⟩ := hx.1.len
  obtain ⟨Y1, y1, rfl, _⟩ := hx.2.len
  obtain ⟨a0, a1, a2, a3, a4, a5, a6, a7, a8, a9, a10, a11⟩ := hce
  simp only at a0 a1 a2 a3 a4 a5 a6 a7 a8 a9 a10 a11
  have KE : Hid (∀ w', Below w.heap.size w.drew w' → w'.cell? ⟨gn, 1, none⟩ = some (.int .i64 (n1 : Nat)) ∧ w'.cell? ⟨gr, 1, none⟩ = some (.slice (some ad) lb cb) ∧ w'.cell? ⟨gs, 0, none⟩ = some (.slice As ls cs) ∧ w'.cell? (ad.add (n1 * 12)) = some (.int .i64 e.kind) ∧ w'.cell? ⟨(ad.add (n1 * 12)).block, (ad.add (n1 * 12)).off + 1, none⟩ = some (.int .i64 e.n) ∧ w'.cell? ⟨(ad.add (n1 * 12)).block, (ad.add (n1 * 12)).off + 2, none⟩ = some (.slice X1 e.data.length x1) ∧ w'.cell? ⟨(ad.add (n1 * 12)).block, (ad.add (n1 * 12)).off + 3, none⟩ = some (.int .i64 e.pk.kind) ∧ w'.cell? ⟨(ad.add (n1 * 12)).block, (ad.add (n1 * 12)).off + 4, none⟩ = some (.int .i64 e.pk.path) ∧ w'.cell? ⟨(ad.add (n1 * 12)).block, (ad.add (n1 * 12)).off + 5, none⟩ = some (.int .i64 e.pk.number) ∧ w'.cell? ⟨(ad.add (n1 * 12)).block, (ad.add (n1 * 12)).off + 6, none⟩ = some (.int .i64 e.pk.of_) ∧ w'.cell? ⟨(ad.add (n1 * 12)).block, (ad.add (n1 * 12)).off + 7, none⟩ = some (.int .i64 e.pk.from_) ∧ w'.cell? ⟨(ad.add (n1 * 12)).block, (ad.add (n1 * 12)).off + 8, none⟩ = some (.slice Y1 e.pk.data.length y1) ∧ w'.cell? ⟨(ad.add (n1 * 12)).block, (ad.add (n1 * 12)).off + 9, none⟩ = some (.bool e.pk.fin) ∧ w'.cell? ⟨(ad.add (n1 * 12)).block, (ad.add (n1 * 12)).off + 10, none⟩ = some (.int .i64 e.pk.seen) ∧ w'.cell? ⟨(ad.add (n1 * 12)).block, (ad.add (n1 * 12)).off + 11, none⟩ = some (.int .i64 e.pk.limit)) := hid (fun W hW => by
   have k : Below w.heap.size w W := ⟨hW.os, hW.tape, hW.output, hW.size, hW.block⟩
   have f := fun {p : Addr} {v : Value} (h : w.cell? p = some v) => (k.cell (World.block_lt_of_cell? w p h)).trans h
   exact ⟨f m1, f r1, f s0, f a0, f a1, f a2, f a3, f a4, f a5, f a6, f a7, f a8, f a9, f a10, f a11⟩)
  have EX := hid (hx.frm ((Frm.refl (fun _ => False) w).drew) (fun _ _ h => h))
  have PP := hid (RowV.below hp (w' := w.drew) ⟨rfl, rfl, rfl, Nat.le_refl _, fun _ _ => rfl⟩ (fun a b hab => hab.frm ((Frm.refl (fun _ => False) w).drew) (fun _ _ h => h)))
  have HQ := hid hq
  have iw1 : IntKind.i64.wrap (1 - 1) = 0 := by decide
  have iw2 : IntKind.i64.wrap 0 = 0 := by decide
  have iw3 : IntKind.i64.wrap (1 + -1) = 0 := by decide
  clear ha hp hx hq hj he
  go_enter Tryz.func26, Tryz.ntmps26
  go_wp2_with fail
  go_region_held3 (fun w' => w'.cell? ⟨gn, 1, none⟩ = some (.int .i64 (n1 : Nat)) ∧ w'.cell? ⟨gr, 1, none⟩ = some (.slice (some ad) lb cb) ∧ w'.cell? ⟨gs, 0, none⟩ = some (.slice As ls cs) ∧ w'.cell? (ad.add (n1 * 12)) = some (.int .i64 e.kind) ∧ w'.cell? ⟨(ad.add (n1 * 12)).block, (ad.add (n1 * 12)).off + 1, none⟩ = some (.int .i64 e.n) ∧ w'.cell? ⟨(ad.add (n1 * 12)).block, (ad.add (n1 * 12)).off + 2, none⟩ = some (.slice X1 e.data.length x1) ∧ w'.cell? ⟨(ad.add (n1 * 12)).block, (ad.add (n1 * 12)).off + 3, none⟩ = some (.int .i64 e.pk.kind) ∧ w'.cell? ⟨(ad.add (n1 * 12)).block, (ad.add (n1 * 12)).off + 4, none⟩ = some (.int .i64 e.pk.path) ∧ w'.cell? ⟨(ad.add (n1 * 12)).block, (ad.add (n1 * 12)).off + 5, none⟩ = some (.int .i64 e.pk.number) ∧ w'.cell? ⟨(ad.add (n1 * 12)).block, (ad.add (n1 * 12)).off + 6, none⟩ = some (.int .i64 e.pk.of_) ∧ w'.cell? ⟨(ad.add (n1 * 12)).block, (ad.add (n1 * 12)).off + 7, none⟩ = some (.int .i64 e.pk.from_) ∧ w'.cell? ⟨(ad.add (n1 * 12)).block, (ad.add (n1 * 12)).off + 8, none⟩ = some (.slice Y1 e.pk.data.length y1) ∧ w'.cell? ⟨(ad.add (n1 * 12)).block, (ad.add (n1 * 12)).off + 9, none⟩ = some (.bool e.pk.fin) ∧ w'.cell? ⟨(ad.add (n1 * 12)).block, (ad.add (n1 * 12)).off + 10, none⟩ = some (.int .i64 e.pk.seen) ∧ w'.cell? ⟨(ad.add (n1 * 12)).block, (ad.add (n1 * 12)).off + 11, none⟩ = some (.int .i64 e.pk.limit)) (first | go_keep | exact KE.out _ hb2) (first | (go_at_call 27; (with_reducible refine (may_at _ S S' e _ _ _ ps q HQ.out EX.out PP.out).mono ?_); rintro r w2 ⟨rfl, hb2⟩))
  all_goals
   go_wp2_with fail
   go_ret
   exact ⟨rfl, ⟨hb2.os, hb2.tape, hb2.output, hb2.size, hb2.block⟩⟩
 ·have j1 : ¬ (n1 : Int) < (lb : Int) := by omega
  rw [List.getElem?_eq_none (by omega)] at hq
  simp only at hq
  subst hq
  clear ha hp hj
  have jd : decide (n1 < lb) = false := by simpa using hlt
  go_enter Tryz.func26, Tryz.ntmps26
  go_wp2_with fail
  go_quiet (fail)
  go_wp2_with fail
  go_ret
  exact ⟨rfl, drewN_below _ _⟩
end
end Go.Proofs.YtdneakejlbabeaaGreat
