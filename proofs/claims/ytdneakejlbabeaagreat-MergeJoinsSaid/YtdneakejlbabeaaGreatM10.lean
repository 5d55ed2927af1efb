/- Parts of the walk: Fi. -/
import Derived.Test.YtdneakejlbabeaaGreatM00
import Derived.RegionTactic
import Derived.Deep.RegionLaw
import Derived.Deep.CutBlock
import Derived.Test.YtdneakejlbabeaaGreatM09
namespace Go.Proofs.YtdneakejlbabeaaGreat
open Go.RowKit
set_option linter.unusedVariables false
set_option linter.unusedSimpArgs false
section
def JoinR (w : World) (a b : List Ev) (r : Ending) (w' : World) : Prop :=
 ∃ v D, r = .returned (.tuple #[v, .int .i64 (J a b).2.1, .int .i64 (J a b).2.2.1, .bool (J a b).2.2.2]) ∧ NRow D w' v (J a b).1 ∧ Below w.heap.size w w'
theorem ERow.near {S : Nat → Prop} {w : World} {v : Value} {es : List Ev} (h : ERow S w v es) : ERow (fun j => S j ∧ j < w.heap.size) w v es := by
 obtain ⟨vs, h1, h2, h3⟩ := h
 exact ⟨vs, h1, h2, fun i a b ha hb => (h3 i a b ha hb).mono (fun j hj hl => ⟨hj, hl⟩)⟩
def vlen : Value → Nat
 | .slice _ n _ => n
 | _ => 0
/-- The head of Join's loop. -/
def JR (w : World) (S : Nat → Prop) (gr gn gs : Nat) (va vb : Value) (a b : List Ev) (vo : Value) (wr : World) : Prop :=
 ∃ n0 n1 sa sb out, JS w.heap.size S wr gr gn gs va vb sa sb vo a b n0 n1 (pks a n0) (pks b n1) out ∧ n0 ≤ a.length ∧ n1 ≤ b.length ∧ Below w.heap.size w wr ∧ out.length = n0 + n1 ∧ join a b (a.length + b.length + 1 - (n0 + n1)) n0 n1 out = J a b
theorem join_step0 {a b : List Ev} {n0 n1 f g : Nat} {out : List (Int × Ev)} {e : Ev} (hf : f = g + 1) (hq : free a n0 (pks b n1) = true) (he : a[n0]? = some e) (h0 : n0 < a.length) : join a b f n0 n1 out = join a b g (n0 + 1) n1 (out ++ [(0, e)]) := by
 subst hf
 rw [join, if_pos (.inl h0), if_pos hq, he]
theorem join_step1 {a b : List Ev} {n0 n1 f g : Nat} {out : List (Int × Ev)} {e : Ev} (hf : f = g + 1) (hq0 : free a n0 (pks b n1) = false) (hq : free b n1 (pks a n0) = true) (he : b[n1]? = some e) (h0 : n1 < b.length) : join a b f n0 n1 out = join a b g n0 (n1 + 1) (out ++ [(1, e)]) := by
 subst hf
 rw [join, if_pos (.inr h0), if_neg (by rw [hq0]; decide), if_pos hq, he]
theorem join_stop0 {a b : List Ev} {n0 n1 f g : Nat} {out : List (Int × Ev)} (hf : f = g + 1) (hq0 : free a n0 (pks b n1) = false) (hq : free b n1 (pks a n0) = false) (h0 : n0 < a.length) : join a b f n0 n1 out = ([], (n0 : Int), 0, false) := by
 subst hf
 rw [join, if_pos (.inl h0), if_neg (by rw [hq0]; decide), if_neg (by rw [hq]; decide), if_pos h0]
theorem join_stop1 {a b : List Ev} {n0 n1 f g : Nat} {out : List (Int × Ev)} (hf : f = g + 1) (hq0 : free a n0 (pks b n1) = false) (hq : free b n1 (pks a n0) = false) (h0 : ¬ n0 < a.length) (h1 : n1 < b.length) : join a b f n0 n1 out = ([], (n1 : Int), 1, false) := by
 subst hf
 rw [join, if_pos (.inr h1), if_neg (by rw [hq0]; decide), if_neg (by rw [hq]; decide), if_neg h0]
theorem join_end {a b : List Ev} {n0 n1 f g : Nat} {out : List (Int × Ev)} (hf : f = g + 1) (h0 : ¬ n0 < a.length) (h1 : ¬ n1 < b.length) : join a b f n0 n1 out = (out, 0, 0, true) := by
 subst hf
 rw [join, if_neg (by omega)]
theorem said_ne0 {B : Nat} {S : Nat → Prop} {w : World} {gr gn gs : Nat} {va vb sa sb vo : Value} {a b : List Ev} {n0 n1 : Nat} {p0 p1 : List Pk} {out : List (Int × Ev)} (h : JS B S w gr gn gs va vb sa sb vo a b n0 n1 p0 p1 out) (j : Nat) (hj : sa.ownBlock = some j) (e : j = gs) : False := by
 obtain ⟨Po, Pa, Pb, D, h1, h2, h3, h4, h5, h6, h7, h8, h9, h10⟩ := h.ex
 exact (h10 j (.inr (.inl (h6 j hj)))).2.2.2.2 e
theorem said_ne1 {B : Nat} {S : Nat → Prop} {w : World} {gr gn gs : Nat} {va vb sa sb vo : Value} {a b : List Ev} {n0 n1 : Nat} {p0 p1 : List Pk} {out : List (Int × Ev)} (h : JS B S w gr gn gs va vb sa sb vo a b n0 n1 p0 p1 out) (j : Nat) (hj : sb.ownBlock = some j) (e : j = gs) : False := by
 obtain ⟨Po, Pa, Pb, D, h1, h2, h3, h4, h5, h6, h7, h8, h9, h10⟩ := h.ex
 exact (h10 j (.inr (.inr (h7 j hj)))).2.2.2.2 e
theorem cell_in_alloc {w : World} {p : Addr} {v : Value} (h : w.cell? p = some v) (o : Obj) : (w.alloc o).cell? p = some v :=
 (((Below.refl w.heap.size w).alloc (Nat.le_refl _) o).cell (World.block_lt_of_cell? w p h)).trans h
theorem free_lt {a : List Ev} {n : Nat} {ps : List Pk} (h : free a n ps = true) : n < a.length := by
 rcases Nat.lt_or_ge n a.length with h1 | h1
 ·exact h1
 ·unfold free at h
  rw [List.getElem?_eq_none h1] at h
  cases h
theorem nrow_nil (D : Nat → Prop) (w : World) : NRow D w (.slice none 0 0) [] := ⟨[], rfl, Sl.nil w 13, fun i a b h => by simp at h⟩
theorem JS.nrow {B : Nat} {S : Nat → Prop} {w : World} {gr gn gs : Nat} {va vb sa sb vo : Value} {a b : List Ev} {n0 n1 : Nat} {p0 p1 : List Pk} {out : List (Int × Ev)} (h : JS B S w gr gn gs va vb sa sb vo a b n0 n1 p0 p1 out) : ∃ D, NRow D w vo out := by
 obtain ⟨Po, Pa, Pb, D, h1, _⟩ := h.ex
 exact ⟨D, h1.row (fun a b hab => EV.one' hab)⟩
theorem _root_.Go.RowKit.Below.drewN'' {B : Nat} {a w : World} (h : Below B a w) (n : Nat) : Below B a (w.drewN n) := ⟨h.os, h.tape, h.output, h.size, h.block⟩
theorem results_four {fn : Func} {t u v x : Tmp} (h : fn.results = #[.tmp t, .tmp u, .tmp v, .tmp x]) (tmps : Array Value) (P : Program) (w : World) :
  (results fn tmps).run P w = .ok (.tuple #[tmps.getD t undef, tmps.getD u undef, tmps.getD v undef, tmps.getD x undef]) w := by
 simp [results, h]
theorem join_start {S : Nat → Prop} {w W0 : World} {va vb : Value} {a b : List Ev} (hS : ∀ j, S j → j < w.heap.size) (hW : W0 = ((w.alloc (.cells #[va, vb] 31)).alloc (.cells #[.int .i64 0, .int .i64 0] 50)).alloc (.cells #[.slice none 0 0, .slice none 0 0] 92)) :
  JR w S w.heap.size (w.heap.size + 1) (w.heap.size + 1 + 1) va vb a b (.slice none 0 0) W0 := by
 subst hW
 have e1 : (w.alloc (.cells #[va, vb] 31)).heap.size = w.heap.size + 1 := by simp
 have e2 : ((w.alloc (.cells #[va, vb] 31)).alloc (.cells #[.int .i64 0, .int .i64 0] 50)).heap.size = w.heap.size + 1 + 1 := by simp
 have bn := Blk.new (w.alloc (.cells #[va, vb] 31)) #[.int .i64 0, .int .i64 0] 50
 rw [e1] at bn
 have bs := Blk.new ((w.alloc (.cells #[va, vb] 31)).alloc (.cells #[.int .i64 0, .int .i64 0] 50)) #[.slice none 0 0, .slice none 0 0] 92
 rw [e2] at bs
 have p0 : ∀ l : List Ev, pks l 0 = [] := fun l => by simp [pks]
 refine ⟨0, 0, .slice none 0 0, .slice none 0 0, [], ⟨⟨((Blk.new w #[va, vb] 31).alloc _).alloc _, bn.alloc _, bs⟩, ⟨by omega, by omega, by omega⟩, ⟨by omega, by omega, by omega⟩, hS, fun _ => False, fun _ => False, fun _ => False, fun _ => False, OutG.nil _ _ _ _ _ _ _, ?_, ?_, fun _ h => h, fun j h => (by cases h), fun j h => (by cases h), fun j h => (by cases h), fun _ h => h.elim, fun _ h => h.elim, fun j h => by rcases h with h | h | h <;> exact h.elim⟩, Nat.zero_le _, Nat.zero_le _, ((ba).alloc (by simp) _).alloc (by simp; omega) _, rfl, rfl⟩
 ·rw [p0]; exact OutG.nil _ _ _ _ _ _ _
 ·rw [p0]; exact OutG.nil _ _ _ _ _ _ _
set_option maxHeartbeats 16000000 in
set_option maxRecDepth 100000 in
theorem join_any (w : World) (S : Nat → Prop) (va vb : Value) (a b : List Ev) (ha : ERow S w va a) (hb : ERow S w vb b) (la : a.length ≤ 500000) (lb : b.length ≤ 500000)
  (sma : ∀ e ∈ a, e.data.length ≤ 2000000 ∧ e.pk.data.length ≤ 2000000) (smb : ∀ e ∈ b, e.data.length ≤ 2000000 ∧ e.pk.data.length ≤ 2000000) :
  Calls Tryz.prog 11 #[va, vb] w fun r w' => JoinR w a b r w' := by
 obtain ⟨Aa, ca, rfl, _⟩ := ha.len
 obtain ⟨Ab, cb, rfl, _⟩ := hb.len
 have HA := hid ha.near
 have HB := hid hb.near
 have SMA := hid sma
 have SMB := hid smb
 clear ha hb sma smb
 go_enter Tryz.func11, Tryz.ntmps11
 go_wp2_with fail
 have HJ := hid (join_start (S := fun j => S j ∧ j < w.heap.size) (a := a) (b := b) (va := .slice Aa a.length ca) (vb := .slice Ab b.length cb) (fun j hj => hj.2) rfl)
 obtain ⟨gr, hgr⟩ := lx (w.heap.size)
 obtain ⟨gn, hgn⟩ := lx (w.heap.size + 1)
 obtain ⟨gs, hgs⟩ := lx (w.heap.size + 1 + 1)
 obtain ⟨w1, hw1⟩ := lx (((w.alloc (.cells #[.slice Aa a.length ca, .slice Ab b.length cb] 31)).alloc (.cells #[.int .i64 0, .int .i64 0] 50)).alloc (.cells #[.slice none 0 0, .slice none 0 0] 92))
 rw [← hw1, ← hgs, ← hgn] at HJ
 rw [← hw1, ← hgs, ← hgn]
 have HJ2 : Hid (JR w (fun j => S j ∧ j < w.heap.size) gr gn gs (.slice Aa a.length ca) (.slice Ab b.length cb) a b (.slice none 0 0) w1) := by rw [hgr]; exact HJ
 rw [← hgr]
 clear HJ hw1 hgs hgn hgr
 go_loopw [4, 12, 13] (fun v _ _ wr => JR w (fun j => S j ∧ j < w.heap.size) gr gn gs (.slice Aa a.length ca) (.slice Ab b.length cb) a b v wr) (fun v _ _ _ => a.length + b.length - vlen v)
 case atStart => exact HJ2.out
 case round =>
  obtain ⟨n0, n1, sa, sb, out, hjs, hn0, hn1, hbel, hlen, hjoin⟩ := hrel
  obtain ⟨⟨As, cs, rfl⟩, ⟨At, ct, rfl⟩, Ao, co, rfl⟩ := hjs.forms
  have JSH := hid hjs
  have BR := hid hbel
  have HAr := hid (HA.out.below hbel)
  have HBr := hid (HB.out.below hbel)
  have sr : w.heap.size ≤ wr.heap.size := hbel.size
  have JN := hid hjoin
  have LN := hid hlen
  have mm0 := hjs.jb.n.cell 0
  have mm1 := hjs.jb.n.cell 1
  simp only [gA, gZ, gC] at mm0 mm1
  obtain ⟨q0, hq0⟩ : ∃ q, free a n0 (pks b n1) = q := ⟨_, rfl⟩
  obtain ⟨q1, hq1⟩ : ∃ q, free b n1 (pks a n0) = q := ⟨_, rfl⟩
  have Q0 := hid hq0
  have Q1 := hid hq1
  clear hjs hbel hlen hjoin hq0 hq1
  by_cases h0 : n0 < a.length
  ·have j0 : (n0 : Int) < (a.length : Int) := by omega
   cases q0
   ·cases q1
    ·
     go_wp2_with fail
     refine (free0_any wr _ _ gr gn gs _ _ _ _ _ _ _ _ _ _ _ _ n0 n1 a _ (JSH.out.jb) (HAr.out) rfl (JSH.out.prow.2) (by omega) false Q0.out).mono ?_
     rintro r wc0 ⟨rfl, hb0⟩
     have JSHc0 := hid (JSH.out.below hb0)
     have Kc0 := hid (hb0)
     clear hb0
     go_wp2_with fail
     refine (free1_any wc0 _ _ gr gn gs _ _ _ _ _ _ _ _ _ _ _ _ n0 n1 b _ (JSHc0.out.jb) (HBr.out.below Kc0.out) rfl (JSHc0.out.prow.1) (by omega) false Q1.out).mono ?_
     rintro r wc1 ⟨rfl, hb1⟩
     have JSHc1 := hid (JSHc0.out.below hb1)
     have Kc1 := hid (Kc0.out.trans (hb1.mono Kc0.out.size))
     clear hb1
     have m0 := JSHc1.out.jb.n.cell 0
     have mz := JSHc1.out.jb.n.cell 0
     simp only [gA, gZ, gC] at m0 mz
     go_wp2_with fail
     go_quiet (fail)
     go_wp2_with fail
     (try simp only [Exit.inBlock, Exit.then])
     refine bodyPost_ret (results_four rfl _ _ _) rfl ?_
     have hj : J a b = ([], (n0 : Int), 0, false) := by rw [← JN.out]; exact join_stop0 (by omega : _ = (a.length + b.length - (n0 + n1)) + 1) Q0.out Q1.out h0
     unfold JoinR
     rw [hj]
     exact ⟨_, fun _ => False, rfl, nrow_nil _ _, (BR.out.trans (Kc1.out.mono sr)).drewN'' _⟩
    ·have h1 : n1 < b.length := free_lt Q1.out
     go_wp2_with fail
     refine (free0_any wr _ _ gr gn gs _ _ _ _ _ _ _ _ _ _ _ _ n0 n1 a _ (JSH.out.jb) (HAr.out) rfl (JSH.out.prow.2) (by omega) false Q0.out).mono ?_
     rintro r wc0 ⟨rfl, hb0⟩
     have JSHc0 := hid (JSH.out.below hb0)
     have Kc0 := hid (hb0)
     clear hb0
     go_wp2_with fail
     refine (free1_any wc0 _ _ gr gn gs _ _ _ _ _ _ _ _ _ _ _ _ n0 n1 b _ (JSHc0.out.jb) (HBr.out.below Kc0.out) rfl (JSHc0.out.prow.1) (by omega) true Q1.out).mono ?_
     rintro r wc1 ⟨rfl, hb1⟩
     have JSHc1 := hid (JSHc0.out.below hb1)
     have Kc1 := hid (Kc0.out.trans (hb1.mono Kc0.out.size))
     clear hb1
     obtain ⟨ad, e, x, y, ead, he, hx, hce⟩ := ERow.ev (HBr.out.below Kc1.out) (by omega : n1 < b.length)
     subst ead
     obtain ⟨X1, x1, rfl, _⟩ := hx.1.len
     obtain ⟨Y1, y1, rfl, _⟩ := hx.2.len
     obtain ⟨a0, a1, a2, a3, a4, a5, a6, a7, a8, a9, a10, a11⟩ := hce
     simp only at a0 a1 a2 a3 a4 a5 a6 a7 a8 a9 a10 a11
     have m1 := JSHc1.out.jb.n.cell 1
     have r1 := JSHc1.out.jb.r.cell 1
     simp only [gA, gZ, gC] at m1 r1
     have i0 : (0 : Int) ≤ (n1 : Int) := by omega
     have i1 : (n1 : Int) < (b.length : Int) := by omega
     have KE : Hid (∀ w', Below wc1.heap.size wc1.drew w' → w'.cell? ⟨gn, 1, none⟩ = some (.int .i64 (n1 : Nat)) ∧ w'.cell? ⟨gr, 1, none⟩ = some (.slice (some ad) b.length cb) ∧ w'.cell? (ad.add (n1 * 12)) = some (.int .i64 e.kind) ∧ w'.cell? ⟨(ad.add (n1 * 12)).block, (ad.add (n1 * 12)).off + 1, none⟩ = some (.int .i64 e.n) ∧ w'.cell? ⟨(ad.add (n1 * 12)).block, (ad.add (n1 * 12)).off + 2, none⟩ = some (.slice X1 e.data.length x1) ∧ w'.cell? ⟨(ad.add (n1 * 12)).block, (ad.add (n1 * 12)).off + 3, none⟩ = some (.int .i64 e.pk.kind) ∧ w'.cell? ⟨(ad.add (n1 * 12)).block, (ad.add (n1 * 12)).off + 4, none⟩ = some (.int .i64 e.pk.path) ∧ w'.cell? ⟨(ad.add (n1 * 12)).block, (ad.add (n1 * 12)).off + 5, none⟩ = some (.int .i64 e.pk.number) ∧ w'.cell? ⟨(ad.add (n1 * 12)).block, (ad.add (n1 * 12)).off + 6, none⟩ = some (.int .i64 e.pk.of_) ∧ w'.cell? ⟨(ad.add (n1 * 12)).block, (ad.add (n1 * 12)).off + 7, none⟩ = some (.int .i64 e.pk.from_) ∧ w'.cell? ⟨(ad.add (n1 * 12)).block, (ad.add (n1 * 12)).off + 8, none⟩ = some (.slice Y1 e.pk.data.length y1) ∧ w'.cell? ⟨(ad.add (n1 * 12)).block, (ad.add (n1 * 12)).off + 9, none⟩ = some (.bool e.pk.fin) ∧ w'.cell? ⟨(ad.add (n1 * 12)).block, (ad.add (n1 * 12)).off + 10, none⟩ = some (.int .i64 e.pk.seen) ∧ w'.cell? ⟨(ad.add (n1 * 12)).block, (ad.add (n1 * 12)).off + 11, none⟩ = some (.int .i64 e.pk.limit)) := hid (fun W hW => by
      have k : Below wc1.heap.size wc1 W := ⟨hW.os, hW.tape, hW.output, hW.size, hW.block⟩
      have f := fun {p : Addr} {v : Value} (h : wc1.cell? p = some v) => (k.cell (World.block_lt_of_cell? wc1 p h)).trans h
      exact ⟨f m1, f r1, f a0, f a1, f a2, f a3, f a4, f a5, f a6, f a7, f a8, f a9, f a10, f a11⟩)
     have EX := hid hx
     have HE := hid he
     clear hx he
     go_wp2_with fail
     go_region_held3 (fun w' => w'.cell? ⟨gn, 1, none⟩ = some (.int .i64 (n1 : Nat)) ∧ w'.cell? ⟨gr, 1, none⟩ = some (.slice (some ad) b.length cb) ∧ w'.cell? (ad.add (n1 * 12)) = some (.int .i64 e.kind) ∧ w'.cell? ⟨(ad.add (n1 * 12)).block, (ad.add (n1 * 12)).off + 1, none⟩ = some (.int .i64 e.n) ∧ w'.cell? ⟨(ad.add (n1 * 12)).block, (ad.add (n1 * 12)).off + 2, none⟩ = some (.slice X1 e.data.length x1) ∧ w'.cell? ⟨(ad.add (n1 * 12)).block, (ad.add (n1 * 12)).off + 3, none⟩ = some (.int .i64 e.pk.kind) ∧ w'.cell? ⟨(ad.add (n1 * 12)).block, (ad.add (n1 * 12)).off + 4, none⟩ = some (.int .i64 e.pk.path) ∧ w'.cell? ⟨(ad.add (n1 * 12)).block, (ad.add (n1 * 12)).off + 5, none⟩ = some (.int .i64 e.pk.number) ∧ w'.cell? ⟨(ad.add (n1 * 12)).block, (ad.add (n1 * 12)).off + 6, none⟩ = some (.int .i64 e.pk.of_) ∧ w'.cell? ⟨(ad.add (n1 * 12)).block, (ad.add (n1 * 12)).off + 7, none⟩ = some (.int .i64 e.pk.from_) ∧ w'.cell? ⟨(ad.add (n1 * 12)).block, (ad.add (n1 * 12)).off + 8, none⟩ = some (.slice Y1 e.pk.data.length y1) ∧ w'.cell? ⟨(ad.add (n1 * 12)).block, (ad.add (n1 * 12)).off + 9, none⟩ = some (.bool e.pk.fin) ∧ w'.cell? ⟨(ad.add (n1 * 12)).block, (ad.add (n1 * 12)).off + 10, none⟩ = some (.int .i64 e.pk.seen) ∧ w'.cell? ⟨(ad.add (n1 * 12)).block, (ad.add (n1 * 12)).off + 11, none⟩ = some (.int .i64 e.pk.limit)) (first | go_keep | exact KE.out _ (ba)) (fail)
     clear KE m1 r1
     have JS4 := hid (JSHc1.out.below (((Below.refl wc1.heap.size wc1).alloc (Nat.le_refl _) (.cells #[.int .i64 e.kind, .int .i64 e.n, .slice X1 e.data.length x1, .int .i64 e.pk.kind, .int .i64 e.pk.path, .int .i64 e.pk.number, .int .i64 e.pk.of_, .int .i64 e.pk.from_, .slice Y1 e.pk.data.length y1, .bool e.pk.fin, .int .i64 e.pk.seen, .int .i64 e.pk.limit] 29)).drew))
     have GE4 := hid ((Blk.new wc1 #[.int .i64 e.kind, .int .i64 e.n, .slice X1 e.data.length x1, .int .i64 e.pk.kind, .int .i64 e.pk.path, .int .i64 e.pk.number, .int .i64 e.pk.of_, .int .i64 e.pk.from_, .slice Y1 e.pk.data.length y1, .bool e.pk.fin, .int .i64 e.pk.seen, .int .i64 e.pk.limit] 29).drew)
     have KW := hid (((Below.refl wc1.heap.size wc1).alloc (Nat.le_refl _) (.cells #[.int .i64 e.kind, .int .i64 e.n, .slice X1 e.data.length x1, .int .i64 e.pk.kind, .int .i64 e.pk.path, .int .i64 e.pk.number, .int .i64 e.pk.of_, .int .i64 e.pk.from_, .slice Y1 e.pk.data.length y1, .bool e.pk.fin, .int .i64 e.pk.seen, .int .i64 e.pk.limit] 29)).drew)
     have EX4 := hid (EX.out.frm (Frm.of_below (S := fun _ => False) KW.out) (fun _ _ h => h))
     obtain ⟨ge, hge⟩ := lx (wc1.heap.size)
     have gl0 := JSHc1.out.jb.r.lt
     have gl1 := JSHc1.out.jb.n.lt
     have gl2 := JSHc1.out.jb.s.lt
     have OWS := hid (JSHc1.out.owns)
     have hBc : w.heap.size ≤ wc1.heap.size := Nat.le_trans sr Kc1.out.size
     obtain ⟨w4, hw4⟩ := lx ((wc1.alloc (.cells #[.int .i64 e.kind, .int .i64 e.n, .slice X1 e.data.length x1, .int .i64 e.pk.kind, .int .i64 e.pk.path, .int .i64 e.pk.number, .int .i64 e.pk.of_, .int .i64 e.pk.from_, .slice Y1 e.pk.data.length y1, .bool e.pk.fin, .int .i64 e.pk.seen, .int .i64 e.pk.limit] 29)).drew)
     rw [← hw4] at JS4 GE4 KW EX4
     rw [← hge] at GE4
     (try clear hHeld)
     (rename_i hh_; clear hh_)
     rw [← hw4, ← hge]
     have hge1 : ge ≤ wc1.heap.size := by omega
     have hge2 : wc1.heap.size ≤ ge := by omega
     clear hw4 hge
     have nge : ge ≠ gn := by omega
     have nge2 : gn ≠ ge := by omega
     have mg := JS4.out.jb.n.cell 1
     have fg := JS4.out.jb.n.free 1
     simp only [gA, gZ, gC] at mg
     have iwn : IntKind.i64.wrap ((n1 : Int) + 1) = (n1 : Int) + 1 := iX
     go_upto_region 15 with fail
     have JS5 := hid (JS4.out.next 1 (.int .i64 ((n1 : Int) + 1)) n0 (n1 + 1) (by simp))
     have f5 := (Frm.refl (· = gn) w4).setg (i := 1) (.int .i64 ((n1 : Int) + 1))
     have GE5 := hid (GE4.out.frm f5 nge)
     have B4 : Below w.heap.size w w4 := (BR.out.trans (Kc1.out.mono sr)).trans (KW.out.mono hBc)
     have gB := JS4.out.g
     have EX5 := hid (EX4.out.frm f5 (fun j hj e => by have := gB.2.1; omega))
     have B5 := hid (Frm.below B4 f5 B4.size (fun i e => by have := gB.2.1; omega))
     obtain ⟨w5, hw5⟩ := lx (w4.setCell ⟨gn, 1, none⟩ (.int .i64 ((n1 : Int) + 1)))
     rw [← hw5] at JS5 GE5 EX5 B5 ⊢
     clear hw5 f5 B4 mg fg JS4 GE4 EX4
     have s5 : w.heap.size ≤ w5.heap.size := B5.out.size
     obtain ⟨e0, e1, e2, e3, e4, e5, e6, e7, e8, e9, e10, e11⟩ := cells12 GE5.out
     by_cases h5 : e.kind = 5
     ·have hk5 : (e.kind == 5) = true := by simpa using h5
      have H5 := hid h5
      clear h5
      obtain ⟨vp, po, psaid⟩ := JS5.out.said1 s5
      have SAID := hid psaid
      have SO := hid (show w5.drew.ownsRow _ _ _ _ _ _ from po)
      have gsl := JS5.out.jb.s.cell 1
      have gsf := JS5.out.jb.s.free 1
      have nge3 : gs ≠ ge := by omega
      simp only [gA, gZ, gC] at gsl
      have HIP := hid Tryz.info27
      have gslA := fun o => cell_in_alloc gsl o
      have pl : (pks b n1).length ≤ 500000 := by have := pks_length b n1; omega
      have EXP := hid EX5.out.2
      have GS5 := hid (show Blk w5.drew gs _ 92 from JS5.out.jb.s)
      have nos : ∀ j, (Value.slice At (pks b n1).length ct).ownBlock = some j → j ≠ gs := fun j hj e => said_ne1 JS5.out j hj e
      have NOS := hid nos
      clear psaid po nos
      go_wp2_with fail
      go_region_law (first | (refine step_app (v := .slice At (pks b n1).length ct) w.heap.size (by rfl) _ _ 75 27 _ 9 88 (by rfl) Tryz.underlying75 HIP.out rfl (by omega) (by omega) (by rfl) (by rfl) (SO.out.alloc _) (Sl.boxk w5.drew 27 9 (pcells e.pk (.slice Y1 e.pk.data.length y1)) _ (by simp) rfl (BV.pone EXP.out)) (by omega) (Nat.le_trans s5 (by simp)) ?_; intro v8 w8 hown hfr hat; have HS8 := hid hown; have HF8 := hid hfr; have HA8 := hid hat; have gs8 := Blk.frm (GS5.out.alloc _) hfr (fun e => NOS.out _ e rfl); have gsl8 := gs8.cell 1; have gsf8 := gs8.free 1; simp at gsl8; obtain ⟨A8, c8, rfl⟩ := own_slice' hown; clear hown hfr hat gs8) | fail)
      all_goals
       obtain ⟨hj55, f55⟩ := SAID.out w5.drew w8 e.pk (.slice Y1 e.pk.data.length y1) (.slice A8 ((pks b n1).length + 1) c8) _ (bD) EXP.out HF8.out HS8.out HA8.out
       have JS55 := hid hj55
       have OW0 := OWS.out.2.1
       have gB5 := JS5.out.g
       have GE55 := hid (GE5.out.frm f55 (fun e => by
        rcases e with e | e
        ·have := (OW0 _ e).2
         omega
        ·omega))
       have EX55 := hid (EX5.out.frm f55 (fun j hj e => by
        rcases e with e | e
        ·have := (OW0 _ e).1
         omega
        ·have := gB5.2.2
         omega))
       have B55 := hid (Frm.below B5.out f55 s5 (fun i e => by
        rcases e with e | e
        ·exact (OW0 _ e).1
        ·have := gB5.2.2
         omega))
       obtain ⟨w55, hw55⟩ := lx (w8.setCell ⟨gs, 1, none⟩ (.slice A8 ((pks b n1).length + 1) c8))
       rw [← hw55] at JS55 GE55 EX55 B55 ⊢
       clear hw55 hj55 f55 gsl gsf gsl8 gsf8 gslA e0 e1 e2 e3 e4 e5 e6 e7 e8 e9 e10 e11
       have s55 : w.heap.size ≤ w55.heap.size := B55.out.size
       obtain ⟨e0, e1, e2, e3, e4, e5, e6, e7, e8, e9, e10, e11⟩ := cells12 GE55.out
       obtain ⟨vs, po, pput⟩ := JS55.out.put s55
       have PUT := hid pput
       have PO := hid po
       clear pput po
       go_wp2_with fail
       have hsm := SMB.out e (List.mem_of_getElem? HE.out)
       refine (own_any w55 _ e _ _ EX55.out hsm.1 hsm.2).mono ?_
       rintro r w6 ⟨x2, y2, rfl, hx2, hb6⟩
       have X6 := hid hx2
       have KB6 := hid hb6
       have OW6 := hid (own_frm PO.out (Frm.of_below (S := fun _ => False) hb6) (fun _ _ h => h))
       have s6 : w.heap.size ≤ w6.heap.size := Nat.le_trans s55 hb6.size
       have hol : out.length ≤ 1000000 := by have := LN.out; omega
       have HI := hid Tryz.info52
       clear hx2 hb6 hsm
       go_wp2_with (at_builtin; refine wp_app w.heap.size rfl _ _ 39 52 _ 13 136 rfl Tryz.underlying39 HI.out rfl (by omega) (by omega) rfl rfl (OW6.out.alloc _) (Sl.boxk w6 52 13 (ncells (1, e) (x2, y2)) _ (by simp) rfl (EV.one' (y := (1, e)) X6.out)) (by omega) (Nat.le_trans s6 (by simp)) ?_; intro v7 w7 hown hfr hat)
       obtain ⟨hj7, f7⟩ := PUT.out w6 w7 (1, e) (x2, y2) v7 _ KB6.out X6.out hfr hown hat
       have own7 := JS55.out.owns.2.2
       have B7 : Below w.heap.size w w7 := Frm.below B55.out f7 s55 (fun i e => (own7 i e).1)
       have hlen7 : (out ++ [(((1 : Int), e) : Int × Ev)]).length = n0 + (n1 + 1) := by rw [List.length_append, LN.out]; simp; omega
       have hjn : join a b (a.length + b.length + 1 - (n0 + (n1 + 1))) n0 (n1 + 1) (out ++ [((1 : Int), e)]) = J a b := by
        rw [← JN.out]
        exact (join_step1 (by omega) Q0.out Q1.out HE.out (by omega)).symm
       have REL : JR w (fun j => S j ∧ j < w.heap.size) gr gn gs _ _ a b v7 w7 := ⟨n0, (n1 + 1), _, _, _, by have hp := pks_succ b n1 e HE.out; rw [if_pos H5.out] at hp; rw [hp]; exact hj7, by omega, by omega, B7, hlen7, hjn⟩
       have HREL := hid REL
       have hv7 : ∃ A c, v7 = .slice A (out.length + 1) c := own_slice' hown
       obtain ⟨A7, c7, rfl⟩ := hv7
       have LNN := LN.out
       clear REL hj7 f7 B7 hjn hown hfr hat own7
       (try go_wp2_with fail)
       go_roundw
       case rel => exact HREL.out
       case measure => simp only [vlen]; omega
     ·have hk5 : (e.kind == 5) = false := by simpa using h5
      have H5 := hid h5
      clear h5
      obtain ⟨vs, po, pput⟩ := JS5.out.put s5
      have PUT := hid pput
      have PO := hid po
      clear pput po
      go_wp2_with fail
      have hsm := SMB.out e (List.mem_of_getElem? HE.out)
      refine (own_any w5 _ e _ _ EX5.out hsm.1 hsm.2).mono ?_
      rintro r w6 ⟨x2, y2, rfl, hx2, hb6⟩
      have X6 := hid hx2
      have KB6 := hid hb6
      have OW6 := hid (own_frm PO.out (Frm.of_below (S := fun _ => False) hb6) (fun _ _ h => h))
      have s6 : w.heap.size ≤ w6.heap.size := Nat.le_trans s5 hb6.size
      have hol : out.length ≤ 1000000 := by have := LN.out; omega
      have HI := hid Tryz.info52
      clear hx2 hb6 hsm
      go_wp2_with (at_builtin; refine wp_app w.heap.size rfl _ _ 39 52 _ 13 136 rfl Tryz.underlying39 HI.out rfl (by omega) (by omega) rfl rfl (OW6.out.alloc _) (Sl.boxk w6 52 13 (ncells (1, e) (x2, y2)) _ (by simp) rfl (EV.one' (y := (1, e)) X6.out)) (by omega) (Nat.le_trans s6 (by simp)) ?_; intro v7 w7 hown hfr hat)
      obtain ⟨hj7, f7⟩ := PUT.out w6 w7 (1, e) (x2, y2) v7 _ KB6.out X6.out hfr hown hat
      have own7 := JS5.out.owns.2.2
      have B7 : Below w.heap.size w w7 := Frm.below B5.out f7 s5 (fun i e => (own7 i e).1)
      have hlen7 : (out ++ [(((1 : Int), e) : Int × Ev)]).length = n0 + (n1 + 1) := by rw [List.length_append, LN.out]; simp; omega
      have hjn : join a b (a.length + b.length + 1 - (n0 + (n1 + 1))) n0 (n1 + 1) (out ++ [((1 : Int), e)]) = J a b := by
       rw [← JN.out]
       exact (join_step1 (by omega) Q0.out Q1.out HE.out (by omega)).symm
      have REL : JR w (fun j => S j ∧ j < w.heap.size) gr gn gs _ _ a b v7 w7 := ⟨n0, (n1 + 1), _, _, _, by have hp := pks_succ b n1 e HE.out; rw [if_neg H5.out] at hp; rw [hp]; exact hj7, by omega, by omega, B7, hlen7, hjn⟩
      have HREL := hid REL
      have hv7 : ∃ A c, v7 = .slice A (out.length + 1) c := own_slice' hown
      obtain ⟨A7, c7, rfl⟩ := hv7
      have LNN := LN.out
      clear REL hj7 f7 B7 hjn hown hfr hat own7
      (try go_wp2_with fail)
      go_roundw
      case rel => exact HREL.out
      case measure => simp only [vlen]; omega
   ·
    go_wp2_with fail
    refine (free0_any wr _ _ gr gn gs _ _ _ _ _ _ _ _ _ _ _ _ n0 n1 a _ (JSH.out.jb) (HAr.out) rfl (JSH.out.prow.2) (by omega) true Q0.out).mono ?_
    rintro r wc0 ⟨rfl, hb0⟩
    have JSHc0 := hid (JSH.out.below hb0)
    have Kc0 := hid (hb0)
    clear hb0
    go_wp2_with fail
    refine (free0_any wc0 _ _ gr gn gs _ _ _ _ _ _ _ _ _ _ _ _ n0 n1 a _ (JSHc0.out.jb) (HAr.out.below Kc0.out) rfl (JSHc0.out.prow.2) (by omega) true Q0.out).mono ?_
    rintro r wc1 ⟨rfl, hb1⟩
    have JSHc1 := hid (JSHc0.out.below hb1)
    have Kc1 := hid (Kc0.out.trans (hb1.mono Kc0.out.size))
    clear hb1
    obtain ⟨ad, e, x, y, ead, he, hx, hce⟩ := ERow.ev (HAr.out.below Kc1.out) (by omega : n0 < a.length)
    subst ead
    obtain ⟨X1, x1, rfl, _⟩ := hx.1.len
    obtain ⟨Y1, y1, rfl, _⟩ := hx.2.len
    obtain ⟨a0, a1, a2, a3, a4, a5, a6, a7, a8, a9, a10, a11⟩ := hce
    simp only at a0 a1 a2 a3 a4 a5 a6 a7 a8 a9 a10 a11
    have m0 := JSHc1.out.jb.n.cell 0
    have r0 := JSHc1.out.jb.r.cell 0
    simp only [gA, gZ, gC] at m0 r0
    have i0 : (0 : Int) ≤ (n0 : Int) := by omega
    have i1 : (n0 : Int) < (a.length : Int) := by omega
    have KE : Hid (∀ w', Below wc1.heap.size wc1.drew w' → w'.cell? ⟨gn, 0, none⟩ = some (.int .i64 (n0 : Nat)) ∧ w'.cell? ⟨gr, 0, none⟩ = some (.slice (some ad) a.length ca) ∧ w'.cell? (ad.add (n0 * 12)) = some (.int .i64 e.kind) ∧ w'.cell? ⟨(ad.add (n0 * 12)).block, (ad.add (n0 * 12)).off + 1, none⟩ = some (.int .i64 e.n) ∧ w'.cell? ⟨(ad.add (n0 * 12)).block, (ad.add (n0 * 12)).off + 2, none⟩ = some (.slice X1 e.data.length x1) ∧ w'.cell? ⟨(ad.add (n0 * 12)).block, (ad.add (n0 * 12)).off + 3, none⟩ = some (.int .i64 e.pk.kind) ∧ w'.cell? ⟨(ad.add (n0 * 12)).block, (ad.add (n0 * 12)).off + 4, none⟩ = some (.int .i64 e.pk.path) ∧ w'.cell? ⟨(ad.add (n0 * 12)).block, (ad.add (n0 * 12)).off + 5, none⟩ = some (.int .i64 e.pk.number) ∧ w'.cell? ⟨(ad.add (n0 * 12)).block, (ad.add (n0 * 12)).off + 6, none⟩ = some (.int .i64 e.pk.of_) ∧ w'.cell? ⟨(ad.add (n0 * 12)).block, (ad.add (n0 * 12)).off + 7, none⟩ = some (.int .i64 e.pk.from_) ∧ w'.cell? ⟨(ad.add (n0 * 12)).block, (ad.add (n0 * 12)).off + 8, none⟩ = some (.slice Y1 e.pk.data.length y1) ∧ w'.cell? ⟨(ad.add (n0 * 12)).block, (ad.add (n0 * 12)).off + 9, none⟩ = some (.bool e.pk.fin) ∧ w'.cell? ⟨(ad.add (n0 * 12)).block, (ad.add (n0 * 12)).off + 10, none⟩ = some (.int .i64 e.pk.seen) ∧ w'.cell? ⟨(ad.add (n0 * 12)).block, (ad.add (n0 * 12)).off + 11, none⟩ = some (.int .i64 e.pk.limit)) := hid (fun W hW => by
     have k : Below wc1.heap.size wc1 W := ⟨hW.os, hW.tape, hW.output, hW.size, hW.block⟩
     have f := fun {p : Addr} {v : Value} (h : wc1.cell? p = some v) => (k.cell (World.block_lt_of_cell? wc1 p h)).trans h
     exact ⟨f m0, f r0, f a0, f a1, f a2, f a3, f a4, f a5, f a6, f a7, f a8, f a9, f a10, f a11⟩)
    have EX := hid hx
    have HE := hid he
    clear hx he
    go_wp2_with fail
    go_region_held3 (fun w' => w'.cell? ⟨gn, 0, none⟩ = some (.int .i64 (n0 : Nat)) ∧ w'.cell? ⟨gr, 0, none⟩ = some (.slice (some ad) a.length ca) ∧ w'.cell? (ad.add (n0 * 12)) = some (.int .i64 e.kind) ∧ w'.cell? ⟨(ad.add (n0 * 12)).block, (ad.add (n0 * 12)).off + 1, none⟩ = some (.int .i64 e.n) ∧ w'.cell? ⟨(ad.add (n0 * 12)).block, (ad.add (n0 * 12)).off + 2, none⟩ = some (.slice X1 e.data.length x1) ∧ w'.cell? ⟨(ad.add (n0 * 12)).block, (ad.add (n0 * 12)).off + 3, none⟩ = some (.int .i64 e.pk.kind) ∧ w'.cell? ⟨(ad.add (n0 * 12)).block, (ad.add (n0 * 12)).off + 4, none⟩ = some (.int .i64 e.pk.path) ∧ w'.cell? ⟨(ad.add (n0 * 12)).block, (ad.add (n0 * 12)).off + 5, none⟩ = some (.int .i64 e.pk.number) ∧ w'.cell? ⟨(ad.add (n0 * 12)).block, (ad.add (n0 * 12)).off + 6, none⟩ = some (.int .i64 e.pk.of_) ∧ w'.cell? ⟨(ad.add (n0 * 12)).block, (ad.add (n0 * 12)).off + 7, none⟩ = some (.int .i64 e.pk.from_) ∧ w'.cell? ⟨(ad.add (n0 * 12)).block, (ad.add (n0 * 12)).off + 8, none⟩ = some (.slice Y1 e.pk.data.length y1) ∧ w'.cell? ⟨(ad.add (n0 * 12)).block, (ad.add (n0 * 12)).off + 9, none⟩ = some (.bool e.pk.fin) ∧ w'.cell? ⟨(ad.add (n0 * 12)).block, (ad.add (n0 * 12)).off + 10, none⟩ = some (.int .i64 e.pk.seen) ∧ w'.cell? ⟨(ad.add (n0 * 12)).block, (ad.add (n0 * 12)).off + 11, none⟩ = some (.int .i64 e.pk.limit)) (first | go_keep | exact KE.out _ (ba)) (fail)
    clear KE m0 r0
    have JS4 := hid (JSHc1.out.below (((Below.refl wc1.heap.size wc1).alloc (Nat.le_refl _) (.cells #[.int .i64 e.kind, .int .i64 e.n, .slice X1 e.data.length x1, .int .i64 e.pk.kind, .int .i64 e.pk.path, .int .i64 e.pk.number, .int .i64 e.pk.of_, .int .i64 e.pk.from_, .slice Y1 e.pk.data.length y1, .bool e.pk.fin, .int .i64 e.pk.seen, .int .i64 e.pk.limit] 29)).drew))
    have GE4 := hid ((Blk.new wc1 #[.int .i64 e.kind, .int .i64 e.n, .slice X1 e.data.length x1, .int .i64 e.pk.kind, .int .i64 e.pk.path, .int .i64 e.pk.number, .int .i64 e.pk.of_, .int .i64 e.pk.from_, .slice Y1 e.pk.data.length y1, .bool e.pk.fin, .int .i64 e.pk.seen, .int .i64 e.pk.limit] 29).drew)
    have KW := hid (((Below.refl wc1.heap.size wc1).alloc (Nat.le_refl _) (.cells #[.int .i64 e.kind, .int .i64 e.n, .slice X1 e.data.length x1, .int .i64 e.pk.kind, .int .i64 e.pk.path, .int .i64 e.pk.number, .int .i64 e.pk.of_, .int .i64 e.pk.from_, .slice Y1 e.pk.data.length y1, .bool e.pk.fin, .int .i64 e.pk.seen, .int .i64 e.pk.limit] 29)).drew)
    have EX4 := hid (EX.out.frm (Frm.of_below (S := fun _ => False) KW.out) (fun _ _ h => h))
    obtain ⟨ge, hge⟩ := lx (wc1.heap.size)
    have gl0 := JSHc1.out.jb.r.lt
    have gl1 := JSHc1.out.jb.n.lt
    have gl2 := JSHc1.out.jb.s.lt
    have OWS := hid (JSHc1.out.owns)
    have hBc : w.heap.size ≤ wc1.heap.size := Nat.le_trans sr Kc1.out.size
    obtain ⟨w4, hw4⟩ := lx ((wc1.alloc (.cells #[.int .i64 e.kind, .int .i64 e.n, .slice X1 e.data.length x1, .int .i64 e.pk.kind, .int .i64 e.pk.path, .int .i64 e.pk.number, .int .i64 e.pk.of_, .int .i64 e.pk.from_, .slice Y1 e.pk.data.length y1, .bool e.pk.fin, .int .i64 e.pk.seen, .int .i64 e.pk.limit] 29)).drew)
    rw [← hw4] at JS4 GE4 KW EX4
    rw [← hge] at GE4
    (try clear hHeld)
    (rename_i hh_; clear hh_)
    rw [← hw4, ← hge]
    have hge1 : ge ≤ wc1.heap.size := by omega
    have hge2 : wc1.heap.size ≤ ge := by omega
    clear hw4 hge
    have nge : ge ≠ gn := by omega
    have nge2 : gn ≠ ge := by omega
    have mg := JS4.out.jb.n.cell 0
    have fg := JS4.out.jb.n.free 0
    simp only [gA, gZ, gC] at mg
    have iwn : IntKind.i64.wrap ((n0 : Int) + 1) = (n0 : Int) + 1 := iX
    go_upto_region 15 with fail
    have JS5 := hid (JS4.out.next 0 (.int .i64 ((n0 : Int) + 1)) (n0 + 1) n1 (by simp))
    have f5 := (Frm.refl (· = gn) w4).setg (i := 0) (.int .i64 ((n0 : Int) + 1))
    have GE5 := hid (GE4.out.frm f5 nge)
    have B4 : Below w.heap.size w w4 := (BR.out.trans (Kc1.out.mono sr)).trans (KW.out.mono hBc)
    have gB := JS4.out.g
    have EX5 := hid (EX4.out.frm f5 (fun j hj e => by have := gB.2.1; omega))
    have B5 := hid (Frm.below B4 f5 B4.size (fun i e => by have := gB.2.1; omega))
    obtain ⟨w5, hw5⟩ := lx (w4.setCell ⟨gn, 0, none⟩ (.int .i64 ((n0 : Int) + 1)))
    rw [← hw5] at JS5 GE5 EX5 B5 ⊢
    clear hw5 f5 B4 mg fg JS4 GE4 EX4
    have s5 : w.heap.size ≤ w5.heap.size := B5.out.size
    obtain ⟨e0, e1, e2, e3, e4, e5, e6, e7, e8, e9, e10, e11⟩ := cells12 GE5.out
    by_cases h5 : e.kind = 5
    ·have hk5 : (e.kind == 5) = true := by simpa using h5
     have H5 := hid h5
     clear h5
     obtain ⟨vp, po, psaid⟩ := JS5.out.said0 s5
     have SAID := hid psaid
     have SO := hid (show w5.drew.ownsRow _ _ _ _ _ _ from po)
     have gsl := JS5.out.jb.s.cell 0
     have gsf := JS5.out.jb.s.free 0
     have nge3 : gs ≠ ge := by omega
     simp only [gA, gZ, gC] at gsl
     have HIP := hid Tryz.info27
     have gslA := fun o => cell_in_alloc gsl o
     have pl : (pks a n0).length ≤ 500000 := by have := pks_length a n0; omega
     have EXP := hid EX5.out.2
     have GS5 := hid (show Blk w5.drew gs _ 92 from JS5.out.jb.s)
     have nos : ∀ j, (Value.slice As (pks a n0).length cs).ownBlock = some j → j ≠ gs := fun j hj e => said_ne0 JS5.out j hj e
     have NOS := hid nos
     clear psaid po nos
     go_wp2_with fail
     go_region_law (first | (refine step_app (v := .slice As (pks a n0).length cs) w.heap.size (by rfl) _ _ 75 27 _ 9 88 (by rfl) Tryz.underlying75 HIP.out rfl (by omega) (by omega) (by rfl) (by rfl) (SO.out.alloc _) (Sl.boxk w5.drew 27 9 (pcells e.pk (.slice Y1 e.pk.data.length y1)) _ (by simp) rfl (BV.pone EXP.out)) (by omega) (Nat.le_trans s5 (by simp)) ?_; intro v8 w8 hown hfr hat; have HS8 := hid hown; have HF8 := hid hfr; have HA8 := hid hat; have gs8 := Blk.frm (GS5.out.alloc _) hfr (fun e => NOS.out _ e rfl); have gsl8 := gs8.cell 0; have gsf8 := gs8.free 0; simp at gsl8; obtain ⟨A8, c8, rfl⟩ := own_slice' hown; clear hown hfr hat gs8) | fail)
     all_goals
      obtain ⟨hj55, f55⟩ := SAID.out w5.drew w8 e.pk (.slice Y1 e.pk.data.length y1) (.slice A8 ((pks a n0).length + 1) c8) _ (bD) EXP.out HF8.out HS8.out HA8.out
      have JS55 := hid hj55
      have OW0 := OWS.out.1
      have gB5 := JS5.out.g
      have GE55 := hid (GE5.out.frm f55 (fun e => by
       rcases e with e | e
       ·have := (OW0 _ e).2
        omega
       ·omega))
      have EX55 := hid (EX5.out.frm f55 (fun j hj e => by
       rcases e with e | e
       ·have := (OW0 _ e).1
        omega
       ·have := gB5.2.2
        omega))
      have B55 := hid (Frm.below B5.out f55 s5 (fun i e => by
       rcases e with e | e
       ·exact (OW0 _ e).1
       ·have := gB5.2.2
        omega))
      obtain ⟨w55, hw55⟩ := lx (w8.setCell ⟨gs, 0, none⟩ (.slice A8 ((pks a n0).length + 1) c8))
      rw [← hw55] at JS55 GE55 EX55 B55 ⊢
      clear hw55 hj55 f55 gsl gsf gsl8 gsf8 gslA e0 e1 e2 e3 e4 e5 e6 e7 e8 e9 e10 e11
      have s55 : w.heap.size ≤ w55.heap.size := B55.out.size
      obtain ⟨e0, e1, e2, e3, e4, e5, e6, e7, e8, e9, e10, e11⟩ := cells12 GE55.out
      obtain ⟨vs, po, pput⟩ := JS55.out.put s55
      have PUT := hid pput
      have PO := hid po
      clear pput po
      go_wp2_with fail
      have hsm := SMA.out e (List.mem_of_getElem? HE.out)
      refine (own_any w55 _ e _ _ EX55.out hsm.1 hsm.2).mono ?_
      rintro r w6 ⟨x2, y2, rfl, hx2, hb6⟩
      have X6 := hid hx2
      have KB6 := hid hb6
      have OW6 := hid (own_frm PO.out (Frm.of_below (S := fun _ => False) hb6) (fun _ _ h => h))
      have s6 : w.heap.size ≤ w6.heap.size := Nat.le_trans s55 hb6.size
      have hol : out.length ≤ 1000000 := by have := LN.out; omega
      have HI := hid Tryz.info52
      clear hx2 hb6 hsm
      go_wp2_with (at_builtin; refine wp_app w.heap.size rfl _ _ 39 52 _ 13 136 rfl Tryz.underlying39 HI.out rfl (by omega) (by omega) rfl rfl (OW6.out.alloc _) (Sl.boxk w6 52 13 (ncells (0, e) (x2, y2)) _ (by simp) rfl (EV.one' (y := (0, e)) X6.out)) (by omega) (Nat.le_trans s6 (by simp)) ?_; intro v7 w7 hown hfr hat)
      obtain ⟨hj7, f7⟩ := PUT.out w6 w7 (0, e) (x2, y2) v7 _ KB6.out X6.out hfr hown hat
      have own7 := JS55.out.owns.2.2
      have B7 : Below w.heap.size w w7 := Frm.below B55.out f7 s55 (fun i e => (own7 i e).1)
      have hlen7 : (out ++ [(((0 : Int), e) : Int × Ev)]).length = (n0 + 1) + n1 := by rw [List.length_append, LN.out]; simp; omega
      have hjn : join a b (a.length + b.length + 1 - ((n0 + 1) + n1)) (n0 + 1) n1 (out ++ [((0 : Int), e)]) = J a b := by
       rw [← JN.out]
       exact (join_step0 (by omega) Q0.out HE.out (by omega)).symm
      have REL : JR w (fun j => S j ∧ j < w.heap.size) gr gn gs _ _ a b v7 w7 := ⟨(n0 + 1), n1, _, _, _, by have hp := pks_succ a n0 e HE.out; rw [if_pos H5.out] at hp; rw [hp]; exact hj7, by omega, by omega, B7, hlen7, hjn⟩
      have HREL := hid REL
      have hv7 : ∃ A c, v7 = .slice A (out.length + 1) c := own_slice' hown
      obtain ⟨A7, c7, rfl⟩ := hv7
      have LNN := LN.out
      clear REL hj7 f7 B7 hjn hown hfr hat own7
      (try go_wp2_with fail)
      go_roundw
      case rel => exact HREL.out
      case measure => simp only [vlen]; omega
    ·have hk5 : (e.kind == 5) = false := by simpa using h5
     have H5 := hid h5
     clear h5
     obtain ⟨vs, po, pput⟩ := JS5.out.put s5
     have PUT := hid pput
     have PO := hid po
     clear pput po
     go_wp2_with fail
     have hsm := SMA.out e (List.mem_of_getElem? HE.out)
     refine (own_any w5 _ e _ _ EX5.out hsm.1 hsm.2).mono ?_
     rintro r w6 ⟨x2, y2, rfl, hx2, hb6⟩
     have X6 := hid hx2
     have KB6 := hid hb6
     have OW6 := hid (own_frm PO.out (Frm.of_below (S := fun _ => False) hb6) (fun _ _ h => h))
     have s6 : w.heap.size ≤ w6.heap.size := Nat.le_trans s5 hb6.size
     have hol : out.length ≤ 1000000 := by have := LN.out; omega
     have HI := hid Tryz.info52
     clear hx2 hb6 hsm
     go_wp2_with (at_builtin; refine wp_app w.heap.size rfl _ _ 39 52 _ 13 136 rfl Tryz.underlying39 HI.out rfl (by omega) (by omega) rfl rfl (OW6.out.alloc _) (Sl.boxk w6 52 13 (ncells (0, e) (x2, y2)) _ (by simp) rfl (EV.one' (y := (0, e)) X6.out)) (by omega) (Nat.le_trans s6 (by simp)) ?_; intro v7 w7 hown hfr hat)
     obtain ⟨hj7, f7⟩ := PUT.out w6 w7 (0, e) (x2, y2) v7 _ KB6.out X6.out hfr hown hat
     have own7 := JS5.out.owns.2.2
     have B7 : Below w.heap.size w w7 := Frm.below B5.out f7 s5 (fun i e => (own7 i e).1)
     have hlen7 : (out ++ [(((0 : Int), e) : Int × Ev)]).length = (n0 + 1) + n1 := by rw [List.length_append, LN.out]; simp; omega
     have hjn : join a b (a.length + b.length + 1 - ((n0 + 1) + n1)) (n0 + 1) n1 (out ++ [((0 : Int), e)]) = J a b := by
      rw [← JN.out]
      exact (join_step0 (by omega) Q0.out HE.out (by omega)).symm
     have REL : JR w (fun j => S j ∧ j < w.heap.size) gr gn gs _ _ a b v7 w7 := ⟨(n0 + 1), n1, _, _, _, by have hp := pks_succ a n0 e HE.out; rw [if_neg H5.out] at hp; rw [hp]; exact hj7, by omega, by omega, B7, hlen7, hjn⟩
     have HREL := hid REL
     have hv7 : ∃ A c, v7 = .slice A (out.length + 1) c := own_slice' hown
     obtain ⟨A7, c7, rfl⟩ := hv7
     have LNN := LN.out
     clear REL hj7 f7 B7 hjn hown hfr hat own7
     (try go_wp2_with fail)
     go_roundw
     case rel => exact HREL.out
     case measure => simp only [vlen]; omega
  ·have j0 : ¬ (n0 : Int) < (a.length : Int) := by omega
   obtain rfl : q0 = false := by
    have := Q0.out
    unfold free at this
    rw [List.getElem?_eq_none (by omega)] at this
    exact this.symm
   by_cases h1 : n1 < b.length
   ·have j1 : (n1 : Int) < (b.length : Int) := by omega
    cases q1
    ·
     go_wp2_with fail
     refine (free0_any wr _ _ gr gn gs _ _ _ _ _ _ _ _ _ _ _ _ n0 n1 a _ (JSH.out.jb) (HAr.out) rfl (JSH.out.prow.2) (by omega) false Q0.out).mono ?_
     rintro r wc0 ⟨rfl, hb0⟩
     have JSHc0 := hid (JSH.out.below hb0)
     have Kc0 := hid (hb0)
     clear hb0
     go_wp2_with fail
     refine (free1_any wc0 _ _ gr gn gs _ _ _ _ _ _ _ _ _ _ _ _ n0 n1 b _ (JSHc0.out.jb) (HBr.out.below Kc0.out) rfl (JSHc0.out.prow.1) (by omega) false Q1.out).mono ?_
     rintro r wc1 ⟨rfl, hb1⟩
     have JSHc1 := hid (JSHc0.out.below hb1)
     have Kc1 := hid (Kc0.out.trans (hb1.mono Kc0.out.size))
     clear hb1
     have m1 := JSHc1.out.jb.n.cell 1
     have mz := JSHc1.out.jb.n.cell 0
     simp only [gA, gZ, gC] at m1 mz
     go_wp2_with fail
     go_quiet (fail)
     go_wp2_with fail
     (try simp only [Exit.inBlock, Exit.then])
     refine bodyPost_ret (results_four rfl _ _ _) rfl ?_
     have hj : J a b = ([], (n1 : Int), 1, false) := by rw [← JN.out]; exact join_stop1 (by omega : _ = (a.length + b.length - (n0 + n1)) + 1) Q0.out Q1.out h0 h1
     unfold JoinR
     rw [hj]
     exact ⟨_, fun _ => False, rfl, nrow_nil _ _, (BR.out.trans (Kc1.out.mono sr)).drewN'' _⟩
    ·
     go_wp2_with fail
     refine (free0_any wr _ _ gr gn gs _ _ _ _ _ _ _ _ _ _ _ _ n0 n1 a _ (JSH.out.jb) (HAr.out) rfl (JSH.out.prow.2) (by omega) false Q0.out).mono ?_
     rintro r wc0 ⟨rfl, hb0⟩
     have JSHc0 := hid (JSH.out.below hb0)
     have Kc0 := hid (hb0)
     clear hb0
     go_wp2_with fail
     refine (free1_any wc0 _ _ gr gn gs _ _ _ _ _ _ _ _ _ _ _ _ n0 n1 b _ (JSHc0.out.jb) (HBr.out.below Kc0.out) rfl (JSHc0.out.prow.1) (by omega) true Q1.out).mono ?_
     rintro r wc1 ⟨rfl, hb1⟩
     have JSHc1 := hid (JSHc0.out.below hb1)
     have Kc1 := hid (Kc0.out.trans (hb1.mono Kc0.out.size))
     clear hb1
     obtain ⟨ad, e, x, y, ead, he, hx, hce⟩ := ERow.ev (HBr.out.below Kc1.out) (by omega : n1 < b.length)
     subst ead
     obtain ⟨X1, x1, rfl, _⟩ := hx.1.len
     obtain ⟨Y1, y1, rfl, _⟩ := hx.2.len
     obtain ⟨a0, a1, a2, a3, a4, a5, a6, a7, a8, a9, a10, a11⟩ := hce
     simp only at a0 a1 a2 a3 a4 a5 a6 a7 a8 a9 a10 a11
     have m1 := JSHc1.out.jb.n.cell 1
     have r1 := JSHc1.out.jb.r.cell 1
     simp only [gA, gZ, gC] at m1 r1
     have i0 : (0 : Int) ≤ (n1 : Int) := by omega
     have i1 : (n1 : Int) < (b.length : Int) := by omega
     have KE : Hid (∀ w', Below wc1.heap.size wc1.drew w' → w'.cell? ⟨gn, 1, none⟩ = some (.int .i64 (n1 : Nat)) ∧ w'.cell? ⟨gr, 1, none⟩ = some (.slice (some ad) b.length cb) ∧ w'.cell? (ad.add (n1 * 12)) = some (.int .i64 e.kind) ∧ w'.cell? ⟨(ad.add (n1 * 12)).block, (ad.add (n1 * 12)).off + 1, none⟩ = some (.int .i64 e.n) ∧ w'.cell? ⟨(ad.add (n1 * 12)).block, (ad.add (n1 * 12)).off + 2, none⟩ = some (.slice X1 e.data.length x1) ∧ w'.cell? ⟨(ad.add (n1 * 12)).block, (ad.add (n1 * 12)).off + 3, none⟩ = some (.int .i64 e.pk.kind) ∧ w'.cell? ⟨(ad.add (n1 * 12)).block, (ad.add (n1 * 12)).off + 4, none⟩ = some (.int .i64 e.pk.path) ∧ w'.cell? ⟨(ad.add (n1 * 12)).block, (ad.add (n1 * 12)).off + 5, none⟩ = some (.int .i64 e.pk.number) ∧ w'.cell? ⟨(ad.add (n1 * 12)).block, (ad.add (n1 * 12)).off + 6, none⟩ = some (.int .i64 e.pk.of_) ∧ w'.cell? ⟨(ad.add (n1 * 12)).block, (ad.add (n1 * 12)).off + 7, none⟩ = some (.int .i64 e.pk.from_) ∧ w'.cell? ⟨(ad.add (n1 * 12)).block, (ad.add (n1 * 12)).off + 8, none⟩ = some (.slice Y1 e.pk.data.length y1) ∧ w'.cell? ⟨(ad.add (n1 * 12)).block, (ad.add (n1 * 12)).off + 9, none⟩ = some (.bool e.pk.fin) ∧ w'.cell? ⟨(ad.add (n1 * 12)).block, (ad.add (n1 * 12)).off + 10, none⟩ = some (.int .i64 e.pk.seen) ∧ w'.cell? ⟨(ad.add (n1 * 12)).block, (ad.add (n1 * 12)).off + 11, none⟩ = some (.int .i64 e.pk.limit)) := hid (fun W hW => by
      have k : Below wc1.heap.size wc1 W := ⟨hW.os, hW.tape, hW.output, hW.size, hW.block⟩
      have f := fun {p : Addr} {v : Value} (h : wc1.cell? p = some v) => (k.cell (World.block_lt_of_cell? wc1 p h)).trans h
      exact ⟨f m1, f r1, f a0, f a1, f a2, f a3, f a4, f a5, f a6, f a7, f a8, f a9, f a10, f a11⟩)
     have EX := hid hx
     have HE := hid he
     clear hx he
     go_wp2_with fail
     go_region_held3 (fun w' => w'.cell? ⟨gn, 1, none⟩ = some (.int .i64 (n1 : Nat)) ∧ w'.cell? ⟨gr, 1, none⟩ = some (.slice (some ad) b.length cb) ∧ w'.cell? (ad.add (n1 * 12)) = some (.int .i64 e.kind) ∧ w'.cell? ⟨(ad.add (n1 * 12)).block, (ad.add (n1 * 12)).off + 1, none⟩ = some (.int .i64 e.n) ∧ w'.cell? ⟨(ad.add (n1 * 12)).block, (ad.add (n1 * 12)).off + 2, none⟩ = some (.slice X1 e.data.length x1) ∧ w'.cell? ⟨(ad.add (n1 * 12)).block, (ad.add (n1 * 12)).off + 3, none⟩ = some (.int .i64 e.pk.kind) ∧ w'.cell? ⟨(ad.add (n1 * 12)).block, (ad.add (n1 * 12)).off + 4, none⟩ = some (.int .i64 e.pk.path) ∧ w'.cell? ⟨(ad.add (n1 * 12)).block, (ad.add (n1 * 12)).off + 5, none⟩ = some (.int .i64 e.pk.number) ∧ w'.cell? ⟨(ad.add (n1 * 12)).block, (ad.add (n1 * 12)).off + 6, none⟩ = some (.int .i64 e.pk.of_) ∧ w'.cell? ⟨(ad.add (n1 * 12)).block, (ad.add (n1 * 12)).off + 7, none⟩ = some (.int .i64 e.pk.from_) ∧ w'.cell? ⟨(ad.add (n1 * 12)).block, (ad.add (n1 * 12)).off + 8, none⟩ = some (.slice Y1 e.pk.data.length y1) ∧ w'.cell? ⟨(ad.add (n1 * 12)).block, (ad.add (n1 * 12)).off + 9, none⟩ = some (.bool e.pk.fin) ∧ w'.cell? ⟨(ad.add (n1 * 12)).block, (ad.add (n1 * 12)).off + 10, none⟩ = some (.int .i64 e.pk.seen) ∧ w'.cell? ⟨(ad.add (n1 * 12)).block, (ad.add (n1 * 12)).off + 11, none⟩ = some (.int .i64 e.pk.limit)) (first | go_keep | exact KE.out _ (ba)) (fail)
     clear KE m1 r1
     have JS4 := hid (JSHc1.out.below (((Below.refl wc1.heap.size wc1).alloc (Nat.le_refl _) (.cells #[.int .i64 e.kind, .int .i64 e.n, .slice X1 e.data.length x1, .int .i64 e.pk.kind, .int .i64 e.pk.path, .int .i64 e.pk.number, .int .i64 e.pk.of_, .int .i64 e.pk.from_, .slice Y1 e.pk.data.length y1, .bool e.pk.fin, .int .i64 e.pk.seen, .int .i64 e.pk.limit] 29)).drew))
     have GE4 := hid ((Blk.new wc1 #[.int .i64 e.kind, .int .i64 e.n, .slice X1 e.data.length x1, .int .i64 e.pk.kind, .int .i64 e.pk.path, .int .i64 e.pk.number, .int .i64 e.pk.of_, .int .i64 e.pk.from_, .slice Y1 e.pk.data.length y1, .bool e.pk.fin, .int .i64 e.pk.seen, .int .i64 e.pk.limit] 29).drew)
     have KW := hid (((Below.refl wc1.heap.size wc1).alloc (Nat.le_refl _) (.cells #[.int .i64 e.kind, .int .i64 e.n, .slice X1 e.data.length x1, .int .i64 e.pk.kind, .int .i64 e.pk.path, .int .i64 e.pk.number, .int .i64 e.pk.of_, .int .i64 e.pk.from_, .slice Y1 e.pk.data.length y1, .bool e.pk.fin, .int .i64 e.pk.seen, .int .i64 e.pk.limit] 29)).drew)
     have EX4 := hid (EX.out.frm (Frm.of_below (S := fun _ => False) KW.out) (fun _ _ h => h))
     obtain ⟨ge, hge⟩ := lx (wc1.heap.size)
     have gl0 := JSHc1.out.jb.r.lt
     have gl1 := JSHc1.out.jb.n.lt
     have gl2 := JSHc1.out.jb.s.lt
     have OWS := hid (JSHc1.out.owns)
     have hBc : w.heap.size ≤ wc1.heap.size := Nat.le_trans sr Kc1.out.size
     obtain ⟨w4, hw4⟩ := lx ((wc1.alloc (.cells #[.int .i64 e.kind, .int .i64 e.n, .slice X1 e.data.length x1, .int .i64 e.pk.kind, .int .i64 e.pk.path, .int .i64 e.pk.number, .int .i64 e.pk.of_, .int .i64 e.pk.from_, .slice Y1 e.pk.data.length y1, .bool e.pk.fin, .int .i64 e.pk.seen, .int .i64 e.pk.limit] 29)).drew)
     rw [← hw4] at JS4 GE4 KW EX4
     rw [← hge] at GE4
     (try clear hHeld)
     (rename_i hh_; clear hh_)
     rw [← hw4, ← hge]
     have hge1 : ge ≤ wc1.heap.size := by omega
     have hge2 : wc1.heap.size ≤ ge := by omega
     clear hw4 hge
     have nge : ge ≠ gn := by omega
     have nge2 : gn ≠ ge := by omega
     have mg := JS4.out.jb.n.cell 1
     have fg := JS4.out.jb.n.free 1
     simp only [gA, gZ, gC] at mg
     have iwn : IntKind.i64.wrap ((n1 : Int) + 1) = (n1 : Int) + 1 := iX
     go_upto_region 15 with fail
     have JS5 := hid (JS4.out.next 1 (.int .i64 ((n1 : Int) + 1)) n0 (n1 + 1) (by simp))
     have f5 := (Frm.refl (· = gn) w4).setg (i := 1) (.int .i64 ((n1 : Int) + 1))
     have GE5 := hid (GE4.out.frm f5 nge)
     have B4 : Below w.heap.size w w4 := (BR.out.trans (Kc1.out.mono sr)).trans (KW.out.mono hBc)
     have gB := JS4.out.g
     have EX5 := hid (EX4.out.frm f5 (fun j hj e => by have := gB.2.1; omega))
     have B5 := hid (Frm.below B4 f5 B4.size (fun i e => by have := gB.2.1; omega))
     obtain ⟨w5, hw5⟩ := lx (w4.setCell ⟨gn, 1, none⟩ (.int .i64 ((n1 : Int) + 1)))
     rw [← hw5] at JS5 GE5 EX5 B5 ⊢
     clear hw5 f5 B4 mg fg JS4 GE4 EX4
     have s5 : w.heap.size ≤ w5.heap.size := B5.out.size
     obtain ⟨e0, e1, e2, e3, e4, e5, e6, e7, e8, e9, e10, e11⟩ := cells12 GE5.out
     by_cases h5 : e.kind = 5
     ·have hk5 : (e.kind == 5) = true := by simpa using h5
      have H5 := hid h5
      clear h5
      obtain ⟨vp, po, psaid⟩ := JS5.out.said1 s5
      have SAID := hid psaid
      have SO := hid (show w5.drew.ownsRow _ _ _ _ _ _ from po)
      have gsl := JS5.out.jb.s.cell 1
      have gsf := JS5.out.jb.s.free 1
      have nge3 : gs ≠ ge := by omega
      simp only [gA, gZ, gC] at gsl
      have HIP := hid Tryz.info27
      have gslA := fun o => cell_in_alloc gsl o
      have pl : (pks b n1).length ≤ 500000 := by have := pks_length b n1; omega
      have EXP := hid EX5.out.2
      have GS5 := hid (show Blk w5.drew gs _ 92 from JS5.out.jb.s)
      have nos : ∀ j, (Value.slice At (pks b n1).length ct).ownBlock = some j → j ≠ gs := fun j hj e => said_ne1 JS5.out j hj e
      have NOS := hid nos
      clear psaid po nos
      go_wp2_with fail
      go_region_law (first | (refine step_app (v := .slice At (pks b n1).length ct) w.heap.size (by rfl) _ _ 75 27 _ 9 88 (by rfl) Tryz.underlying75 HIP.out rfl (by omega) (by omega) (by rfl) (by rfl) (SO.out.alloc _) (Sl.boxk w5.drew 27 9 (pcells e.pk (.slice Y1 e.pk.data.length y1)) _ (by simp) rfl (BV.pone EXP.out)) (by omega) (Nat.le_trans s5 (by simp)) ?_; intro v8 w8 hown hfr hat; have HS8 := hid hown; have HF8 := hid hfr; have HA8 := hid hat; have gs8 := Blk.frm (GS5.out.alloc _) hfr (fun e => NOS.out _ e rfl); have gsl8 := gs8.cell 1; have gsf8 := gs8.free 1; simp at gsl8; obtain ⟨A8, c8, rfl⟩ := own_slice' hown; clear hown hfr hat gs8) | fail)
      all_goals
       obtain ⟨hj55, f55⟩ := SAID.out w5.drew w8 e.pk (.slice Y1 e.pk.data.length y1) (.slice A8 ((pks b n1).length + 1) c8) _ (bD) EXP.out HF8.out HS8.out HA8.out
       have JS55 := hid hj55
       have OW0 := OWS.out.2.1
       have gB5 := JS5.out.g
       have GE55 := hid (GE5.out.frm f55 (fun e => by
        rcases e with e | e
        ·have := (OW0 _ e).2
         omega
        ·omega))
       have EX55 := hid (EX5.out.frm f55 (fun j hj e => by
        rcases e with e | e
        ·have := (OW0 _ e).1
         omega
        ·have := gB5.2.2
         omega))
       have B55 := hid (Frm.below B5.out f55 s5 (fun i e => by
        rcases e with e | e
        ·exact (OW0 _ e).1
        ·have := gB5.2.2
         omega))
       obtain ⟨w55, hw55⟩ := lx (w8.setCell ⟨gs, 1, none⟩ (.slice A8 ((pks b n1).length + 1) c8))
       rw [← hw55] at JS55 GE55 EX55 B55 ⊢
       clear hw55 hj55 f55 gsl gsf gsl8 gsf8 gslA e0 e1 e2 e3 e4 e5 e6 e7 e8 e9 e10 e11
       have s55 : w.heap.size ≤ w55.heap.size := B55.out.size
       obtain ⟨e0, e1, e2, e3, e4, e5, e6, e7, e8, e9, e10, e11⟩ := cells12 GE55.out
       obtain ⟨vs, po, pput⟩ := JS55.out.put s55
       have PUT := hid pput
       have PO := hid po
       clear pput po
       go_wp2_with fail
       have hsm := SMB.out e (List.mem_of_getElem? HE.out)
       refine (own_any w55 _ e _ _ EX55.out hsm.1 hsm.2).mono ?_
       rintro r w6 ⟨x2, y2, rfl, hx2, hb6⟩
       have X6 := hid hx2
       have KB6 := hid hb6
       have OW6 := hid (own_frm PO.out (Frm.of_below (S := fun _ => False) hb6) (fun _ _ h => h))
       have s6 : w.heap.size ≤ w6.heap.size := Nat.le_trans s55 hb6.size
       have hol : out.length ≤ 1000000 := by have := LN.out; omega
       have HI := hid Tryz.info52
       clear hx2 hb6 hsm
       go_wp2_with (at_builtin; refine wp_app w.heap.size rfl _ _ 39 52 _ 13 136 rfl Tryz.underlying39 HI.out rfl (by omega) (by omega) rfl rfl (OW6.out.alloc _) (Sl.boxk w6 52 13 (ncells (1, e) (x2, y2)) _ (by simp) rfl (EV.one' (y := (1, e)) X6.out)) (by omega) (Nat.le_trans s6 (by simp)) ?_; intro v7 w7 hown hfr hat)
       obtain ⟨hj7, f7⟩ := PUT.out w6 w7 (1, e) (x2, y2) v7 _ KB6.out X6.out hfr hown hat
       have own7 := JS55.out.owns.2.2
       have B7 : Below w.heap.size w w7 := Frm.below B55.out f7 s55 (fun i e => (own7 i e).1)
       have hlen7 : (out ++ [(((1 : Int), e) : Int × Ev)]).length = n0 + (n1 + 1) := by rw [List.length_append, LN.out]; simp; omega
       have hjn : join a b (a.length + b.length + 1 - (n0 + (n1 + 1))) n0 (n1 + 1) (out ++ [((1 : Int), e)]) = J a b := by
        rw [← JN.out]
        exact (join_step1 (by omega) Q0.out Q1.out HE.out (by omega)).symm
       have REL : JR w (fun j => S j ∧ j < w.heap.size) gr gn gs _ _ a b v7 w7 := ⟨n0, (n1 + 1), _, _, _, by have hp := pks_succ b n1 e HE.out; rw [if_pos H5.out] at hp; rw [hp]; exact hj7, by omega, by omega, B7, hlen7, hjn⟩
       have HREL := hid REL
       have hv7 : ∃ A c, v7 = .slice A (out.length + 1) c := own_slice' hown
       obtain ⟨A7, c7, rfl⟩ := hv7
       have LNN := LN.out
       clear REL hj7 f7 B7 hjn hown hfr hat own7
       (try go_wp2_with fail)
       go_roundw
       case rel => exact HREL.out
       case measure => simp only [vlen]; omega
     ·have hk5 : (e.kind == 5) = false := by simpa using h5
      have H5 := hid h5
      clear h5
      obtain ⟨vs, po, pput⟩ := JS5.out.put s5
      have PUT := hid pput
      have PO := hid po
      clear pput po
      go_wp2_with fail
      have hsm := SMB.out e (List.mem_of_getElem? HE.out)
      refine (own_any w5 _ e _ _ EX5.out hsm.1 hsm.2).mono ?_
      rintro r w6 ⟨x2, y2, rfl, hx2, hb6⟩
      have X6 := hid hx2
      have KB6 := hid hb6
      have OW6 := hid (own_frm PO.out (Frm.of_below (S := fun _ => False) hb6) (fun _ _ h => h))
      have s6 : w.heap.size ≤ w6.heap.size := Nat.le_trans s5 hb6.size
      have hol : out.length ≤ 1000000 := by have := LN.out; omega
      have HI := hid Tryz.info52
      clear hx2 hb6 hsm
      go_wp2_with (at_builtin; refine wp_app w.heap.size rfl _ _ 39 52 _ 13 136 rfl Tryz.underlying39 HI.out rfl (by omega) (by omega) rfl rfl (OW6.out.alloc _) (Sl.boxk w6 52 13 (ncells (1, e) (x2, y2)) _ (by simp) rfl (EV.one' (y := (1, e)) X6.out)) (by omega) (Nat.le_trans s6 (by simp)) ?_; intro v7 w7 hown hfr hat)
      obtain ⟨hj7, f7⟩ := PUT.out w6 w7 (1, e) (x2, y2) v7 _ KB6.out X6.out hfr hown hat
      have own7 := JS5.out.owns.2.2
      have B7 : Below w.heap.size w w7 := Frm.below B5.out f7 s5 (fun i e => (own7 i e).1)
      have hlen7 : (out ++ [(((1 : Int), e) : Int × Ev)]).length = n0 + (n1 + 1) := by rw [List.length_append, LN.out]; simp; omega
      have hjn : join a b (a.length + b.length + 1 - (n0 + (n1 + 1))) n0 (n1 + 1) (out ++ [((1 : Int), e)]) = J a b := by
       rw [← JN.out]
       exact (join_step1 (by omega) Q0.out Q1.out HE.out (by omega)).symm
      have REL : JR w (fun j => S j ∧ j < w.heap.size) gr gn gs _ _ a b v7 w7 := ⟨n0, (n1 + 1), _, _, _, by have hp := pks_succ b n1 e HE.out; rw [if_neg H5.out] at hp; rw [hp]; exact hj7, by omega, by omega, B7, hlen7, hjn⟩
      have HREL := hid REL
      have hv7 : ∃ A c, v7 = .slice A (out.length + 1) c := own_slice' hown
      obtain ⟨A7, c7, rfl⟩ := hv7
      have LNN := LN.out
      clear REL hj7 f7 B7 hjn hown hfr hat own7
      (try go_wp2_with fail)
      go_roundw
      case rel => exact HREL.out
      case measure => simp only [vlen]; omega
   ·have j1 : ¬ (n1 : Int) < (b.length : Int) := by omega
    go_wp2_with fail
    (try simp only [Exit.inBlock, Exit.then])
    refine bodyPost_ret (results_four rfl _ _ _) rfl ?_
    have hj : J a b = (out, 0, 0, true) := by rw [← JN.out]; exact join_end (by omega : _ = (a.length + b.length - (n0 + n1)) + 1) h0 h1
    obtain ⟨D, hD⟩ := JSH.out.nrow
    unfold JoinR
    rw [hj]
    exact ⟨_, D, rfl, hD, BR.out⟩
end
end Go.Proofs.YtdneakejlbabeaaGreat
