/- Parts of the walk: Jj, Jk, Jl, Jm. -/
import Derived.Test.YtdneakejlbabeaaGreatM00
import Derived.Test.YtdneakejlbabeaaGreatM25
import Derived.Test.YtdneakejlbabeaaGreatM04
namespace Go.Proofs.YtdneakejlbabeaaGreat
open Go.RowKit
set_option linter.unusedVariables false
set_option linter.unusedSimpArgs false
section
theorem BV.stp {C : Nat → Prop} {o o' : Nat → Nat} {w w' : World} {v : Value} {l : List Int} (h : BV w (frozen o) v l) (s : Stp C o o' w w') (h0 : ¬ C 0) : BV w' (frozen o') v l :=
 ((h.mono (S' := fun j => frozen o j ∧ j < w.heap.size) (fun j hj hl => ⟨hj, hl⟩)).frm s.f (fun j hj e => h0 (by have h1 : o j = 0 := hj.1; rw [h1] at e; exact e))).mono (fun j hj _ => frozen_ag s.ag j hj.1 hj.2)
theorem ec0 {k : Nat} (h : 0 < k) : ¬ EC k 0 := fun e => by have := e.1; omega
def EReadR (o : Nat → Nat) (k B N : Nat) (w : World) (ge : Nat) (x : EndV) (e : Ending) (w' : World) : Prop :=
 ∃ (v : Value) (l : List Int) (o' : Nat → Nat) (x' : EndV) (d : List Ev), e = .returned v ∧ BV w' (frozen o') v l ∧ l.length ≤ 4096 ∧ EndS o' k B w' ge x' ∧ Stp (EC k) o o' w w' ∧ Act (N + 500000) x x' d ∧ ∀ e ∈ d, e.kind ≠ 4
set_option maxHeartbeats 8000000 in
set_option maxRecDepth 100000 in
theorem eread_any (o : Nat → Nat) (k B N : Nat) (w : World) (ge : Nat) (x : EndV) (n : Int) (h : EndS o k B w ge x) (hok : EOk N x) (hN : N + 500000 ≤ 40000000) (hB : B ≤ w.heap.size) :
  Calls Tryz.prog 41 #[.pointer (some ⟨ge, 0, none⟩), .int .i64 n] w fun e w' => EReadR o k B N w ge x e w' := by
 have H := hid h
 have OK := hid hok
 have HI := hid Tryz.info5
 have kp := h.kp
 have n15 := h.blk.cell 15
 simp only [gA, gZ, gC] at n15
 have hsl := h.said_le
 have hes := hok.es
 have hNN := hok.N
 have I := h.c5.r
 have hnn := frontL_nonneg I.srt.a
 have htop := frontL_top I.top (by omega)
 have htk := I.tk
 have hbn := I.bn
 obtain ⟨f, hf⟩ : ∃ f : Nat, frontL x.got = (f : Int) := ⟨(frontL x.got).toNat, by omega⟩
 have HF := hid hf
 have HI5 := hid I
 clear h hok I
 go_enter Tryz.func41, Tryz.ntmps41
 go_wp2_with fail
 refine (iread_any (fun j => B ≤ j) x.ib x.ta f n HI5.out.blk HI5.out.r HI5.out.b.bv HF.out (by omega) (by omega) (by omega)).mono ?_
 rintro e w1 ⟨v1, l1, wz, rfl, hbo, hlen, hbz, rfl⟩
 have S1 : Stp (fun c => c = k + 5) o (scr o w.heap.size 0) w (wz.setCell ⟨x.gi, 1, none⟩ (.int .i64 ((x.ta + l1.length : Nat) : Int))) := ⟨(Frm.of_below hbz).setCell (.inl (H.out.c5.ow _ (.inl rfl))) _, scr_agr _ _ _⟩
 have hI1 := (HI5.out.below hbz).setT (x.ta + l1.length) (by rw [HF.out]; omega)
 have X1 := hid (H.out.put5 S1 ⟨hI1, fun i hi => (S1.ag i (HI5.out.lt i hi)).trans (H.out.c5.ow i hi)⟩)
 have T1 := hid (S1.mono (D := EC k) (fun c hc => by rw [hc]; exact ⟨by omega, by omega⟩))
 have V1 : Hid (BV (wz.setCell ⟨x.gi, 1, none⟩ (.int .i64 ((x.ta + l1.length : Nat) : Int))) (frozen (scr o w.heap.size 0)) v1 l1) := hid (hbo.bv.mono (fun j hj _ => scr_new hj))
 obtain ⟨A1, c1, rfl⟩ := own_slice' hbo.1
 obtain ⟨w1, hw1⟩ := lx (wz.setCell ⟨x.gi, 1, none⟩ (.int .i64 ((x.ta + l1.length : Nat) : Int)))
 rw [← hw1] at X1 T1 V1 ⊢
 obtain ⟨o1, ho1⟩ := lx (scr o w.heap.size 0)
 rw [← ho1] at X1 T1 V1
 have hl4 : l1.length ≤ 4096 := by omega
 clear hbo hbz hI1 S1 hw1 ho1
 have OK1 : Hid (EOk N { x with wi := x.wi, ta := x.ta + l1.length, en := x.en, vib := x.vib, ib := x.ib, vg := x.vg, got := x.got }) := hid (by
  obtain ⟨h1, h2, h3, h4, h5, h6, h7, h8, h9, h10⟩ := OK.out
  exact ⟨h1, h2, h3, h4, h5, h6, h7, h8, h9, h10⟩)
 obtain ⟨m, hm⟩ : ∃ m, l1.length = m := ⟨_, rfl⟩
 have HM := hid hm
 rw [hm] at hl4 ⊢
 have X1' := X1
 rcases Nat.eq_zero_or_pos m with h0 | h0
 ·subst h0
  go_wp2_with fail
  go_ret
  obtain ⟨h1, h2, h3, h4, h5, h6, h7, h8, h9, h10⟩ := OK1.out
  exact ⟨_, l1, o1, _, [], rfl, by have := V1.out; rw [hm] at this; exact this, by rw [hm]; exact hl4, X1.out, T1.out, ⟨by simp, by simp [sents], ⟨h1, h2, h3, h4, h5, by omega, by omega, by omega, by omega, hN⟩, rfl, fun e h => (by cases h)⟩, fun e h => by cases h⟩
 ·have m0 : (0 : Int) < (m : Int) := by omega
  have HS : Hid (Sl w1 1 (.slice A1 m c1) m (u8s l1)) := hid (by have := V1.out.sl; rw [hm] at this; exact this)
  have V1' : Hid (BV w1 (frozen o1) (.slice A1 m c1) l1) := hid (by have := V1.out; rw [hm] at this; exact this)
  clear hm V1 X1'
  go_wp2_with (at_builtin; refine wp_app w1.heap.size rfl _ _ 25 5 (.int .u8 0) 1 1 rfl Tryz.underlying25 HI.out rfl (by omega) (by omega) rfl rfl (World.ownsRow_nil _ _ _ _) HS.out (by omega) (Nat.le_refl _) ?_; intro v7 w7 hown hfr hat; simp only [Nat.zero_add, List.nil_append] at hown; have O7 := hid hown; have B7 : Hid (Below w1.heap.size w1 w7) := hid (Frm.below (Below.refl _ _) hfr (Nat.le_refl _) (fun g hg => by cases hg)); obtain ⟨A7, c7, rfl⟩ := own_slice' hown; clear hown hfr hat)
  have S7 : Stp (fun _ => False) o1 (scr o1 w1.heap.size 0) w1 w7 := ⟨Frm.of_below B7.out, scr_agr _ _ _⟩
  have X7 := hid (X1.out.frm S7 (fun h => h) (fun _ h => h.elim))
  have T7 := hid (T1.out.trans (S7.mono (fun _ h => h.elim)))
  have W7 := hid (V1'.out.stp S7 (fun h => h))
  have D7 : Hid (BV w7 (frozen (scr o1 w1.heap.size 0)) (.slice A7 m c7) l1) := hid (by
   have hb : BO w1.heap.size w7 (.slice A7 m c7) l1 := ⟨by rw [HM.out]; exact O7.out, V1'.out.byt⟩
   exact hb.bv.mono (fun j hj _ => scr_new hj))
  (try go_wp2_with fail)
  refine (event_any _ k B w7 ge _ ⟨2, 0, l1, noPk⟩ (.slice A7 m c7) (.slice none 0 0) X7.out (Nat.le_trans hB T7.out.size) ⟨D7.out, BV.nil _ _⟩ (by dsimp only; omega)).mono ?_
  rintro e w2 ⟨rfl, o2, vE, m0, hx2, hs2⟩
  have X2 := hid hx2
  have T2 := hid (T7.out.trans (hs2.mono (fun c hc => by rcases hc with rfl | rfl; exact ⟨by omega, by omega⟩; exact ⟨by omega, by omega⟩)))
  have W2 := hid (W7.out.stp hs2 (by omega))
  clear hx2 hs2 S7
  have n25 := X2.out.blk.cell 25
  have y25 := X2.out.blk.free 25
  simp only [gA, gZ, gC] at n25
  obtain ⟨mm, hmm⟩ : ∃ q, IntKind.i64.wrap (x.m6 + (m : Int)) = q := ⟨_, rfl⟩
  go_wp2_with fail
  refine wp_region_still_tail (id := 4) 11 (by kernel_rfl) (by kernel_rfl) ?_
  change wpStill _ _ (World.drew _) (fun a' => wpList _ _ _ _ a' (World.drew _)) _ _
  simp only [List.take_succ_cons, List.take_zero, List.drop_succ_cons, List.drop_zero]
  repeat still_step
  refine wpStill_nil ?_
  go_wp2_with fail
  go_ret
  have SA : Stp (fun c => c = k) o2 o2 w2 (w2.setCell ⟨ge, 25, none⟩ (.int .i64 mm)).drew := ⟨((Frm.refl _ _).setCell (.inl X2.out.og) _).drew, Agr.refl _ _⟩
  have XA := X2.out.putI SA x.now x.limit x.sent m0 x.m1 x.m2 x.m3 x.m4 x.m5 mm x.m7 (Blk.drew (by simpa using X2.out.blk.set 25 (.int .i64 mm)))
  refine ⟨_, l1, o2, _, [⟨2, 0, l1, noPk⟩], rfl, W2.out.stp SA (by omega), by rw [HM.out]; exact hl4, XA, T2.out.trans (SA.mono (fun c hc => by rw [hc]; exact ⟨by omega, by omega⟩)), ?_, by intro e he; rw [List.mem_singleton] at he; subst he; simp⟩
  obtain ⟨h1, h2, h3, h4, h5, h6, h7, h8, h9, h10⟩ := OK1.out
  exact ⟨rfl, by simp [sents], ⟨h1, h2, h3, h4, h5, by dsimp only at h6 ⊢; omega, by dsimp only at h7 ⊢; omega, by simp; omega, by dsimp only at h9 ⊢; omega, hN⟩, rfl, fun e he => by rw [List.mem_singleton.1 he]; exact ⟨by show l1.length ≤ 1000000; have := HM.out; omega, Nat.zero_le _⟩⟩
end

section
def GivenR (o : Nat → Nat) (k B : Nat) (w : World) (ge : Nat) (x : EndV) (n : Nat) (e : Ending) (w' : World) : Prop :=
 e = .returned (.tuple #[]) ∧ ∃ (o' : Nat → Nat) (vl' : Value) (lost' : List (Int × Int)) (m : Int), EndS o' k B w' ge { x with vl := vl', lost := lost', m7 := m } ∧ Stp (fun c => c = k) o o' w w' ∧ lost'.length ≤ x.lost.length + n
set_option maxHeartbeats 8000000 in
set_option maxRecDepth 100000 in
theorem given_any' (o : Nat → Nat) (k B : Nat) (w : World) (ge : Nat) (x : EndV) (v : Value) (ls : List O4) (h : EndS o k B w ge x) (hB : B ≤ w.heap.size) (hr : RG outc 4 w v ls) (hv : ∀ j, v.ownBlock = some j → o j ≠ k) (hl : x.lost.length + ls.length ≤ 100000000) :
  Calls Tryz.prog 60 #[.pointer (some ⟨ge, 0, none⟩), v] w fun e w' => GivenR o k B w ge x ls.length e w' := by
 have H := hid h
 have HR := hid hr
 have HV := hid hv
 have kp := h.kp
 obtain ⟨A, c, rfl, _, _⟩ := hr.len
 clear h hr hv
 go_enter Tryz.func60, Tryz.ntmps60
 go_wp2_with fail
 go_loopw [8] (fun i wr => ∃ (j : Nat) (o' : Nat → Nat) (vl' : Value) (lost' : List (Int × Int)) (m : Int), j ≤ ls.length ∧ i = .int .i64 j ∧ EndS o' k B wr ge { x with vl := vl', lost := lost', m7 := m } ∧ Stp (fun c => c = k) o o' w wr ∧ lost'.length ≤ x.lost.length + j) (fun i _ => ls.length - (intOf i).toNat)
 case atStart => exact ⟨0, o, x.vl, x.lost, x.m7, Nat.zero_le _, rfl, H.out, Stp.refl _ _ _, by omega⟩
 case round =>
  obtain ⟨j, o1, vl1, lost1, m1, hj, rfl, hx1, hs1, hlo1⟩ := hrel
  have X1 := hid hx1
  have S1 := hid hs1
  have sr := hs1.size
  clear hx1 hs1
  by_cases hjl : j < ls.length
  ·have j0 : (0 : Int) ≤ (j : Int) := by omega
   have j1 : (j : Int) < (ls.length : Int) := by omega
   have iwj : IntKind.i64.wrap ((j : Int) + 1) = (j : Int) + 1 := iX
   have RR1 : RG outc 4 wr (.slice A ls.length c) ls := HR.out.frm S1.out.f (fun j hj he => HV.out j hj he)
   obtain ⟨ad, rfl, d0, d1, d2, d3⟩ := out_at RR1 hjl
   obtain ⟨y, hy⟩ : ∃ y, ls[j] = y := ⟨_, rfl⟩
   rw [hy] at d0 d1 d2 d3
   clear hy RR1
   go_wp2_with fail
   obtain ⟨w2, hw2⟩ := lx (wr.alloc (.cells #[.int .i64 y.1, .int .i64 y.2.1, .int .i64 y.2.2.1, .int .i64 y.2.2.2] 140))
   obtain ⟨gx, hgx⟩ := lx (wr.heap.size)
   have B2 : Below wr.heap.size wr w2 := by rw [hw2]; exact ba
   have BX : Hid (Blk w2 gx #[.int .i64 y.1, .int .i64 y.2.1, .int .i64 y.2.2.1, .int .i64 y.2.2.2] 140) := hid (by rw [hw2, hgx]; exact Blk.new _ _ _)
   have X2 := hid (X1.out.below B2)
   have S2 := hid (S1.out.trans (Stp.below B2))
   rw [← hw2, ← hgx]
   clear hw2 hgx B2 d0 d1 d2 d3
   have b1 := BX.out.cell 1
   have b2 := BX.out.cell 2
   simp only [gA, gZ, gC] at b1 b2
   go_wp2_with fail
   refine wp_region_still_tail (id := 3) 7 (by kernel_rfl) (by kernel_rfl) ?_
   change wpStill _ _ (World.drew _) (fun a' => wpList _ _ _ _ a' (World.drew _)) _ _
   simp only [List.take_succ_cons, List.take_zero, List.drop_succ_cons, List.drop_zero]
   repeat still_step
   refine wpStill_nil ?_
   go_wp2_with fail
   refine (plost_any w2.drew ge 13 vl1 lost1 y.2.1 y.2.2.1 (X2.out.blk.cell 14) (X2.out.blk.free 14) X2.out.c4.r (by omega)).mono ?_
   rintro e w3 ⟨rfl, v', hc⟩
   have S3 : Stp (fun c => c = k) o1 (ext o1 w2.heap.size v' (k + 4)) w2 w3 := ⟨(Frm.refl _ w2).drew.trans (hc.f.mono (fun j hj => by rw [hj]; exact X2.out.og)), ext_agr _ _ _ _⟩
   have so := setAdd_o y.2.1 y.2.2.1 X2.out.c4.s
   have X3 := hid (X2.out.put4 S3 x.sent v' (setAdd y.2.1 y.2.2.1 lost1) (by simpa using hc.c _ _ X2.out.blk) ⟨hc.r, fun j hj => by
    rcases hc.n with e | e
    ·have h1 := X2.out.c4.ow j (e ▸ hj)
     exact ⟨(ext_agr o1 _ v' _ j h1.2).trans h1.1, Nat.lt_of_lt_of_le h1.2 S3.size⟩
    ·have h1 := e j hj
     have h2 : w2.drew.heap.size = w2.heap.size := rfl
     unfold ext
     rw [if_neg (by omega), if_pos hj]
     exact ⟨rfl, h1.2⟩, so.s⟩)
   have hlo3 : (setAdd y.2.1 y.2.2.1 lost1).length ≤ x.lost.length + (j + 1) := by have := so.len; dsimp only at this; omega
   have T3 := hid (S2.out.trans S3)
   obtain ⟨lost3, hlost3⟩ := lx (setAdd y.2.1 y.2.2.1 lost1)
   obtain ⟨o3, ho3⟩ := lx (ext o1 w2.heap.size v' (k + 4))
   rw [← hlost3] at X3 hlo3
   rw [← ho3] at X3 T3
   clear hc S3 so hlost3 ho3 b1 b2
   have n26 := X3.out.blk.cell 26
   have y26 := X3.out.blk.free 26
   simp only [gA, gZ, gC] at n26
   obtain ⟨mm, hmm⟩ : ∃ m, IntKind.i64.wrap (m1 + 1) = m := ⟨_, rfl⟩
   go_wp2_with fail
   refine wp_region_still_tail (id := 4) 9 (by kernel_rfl) (by kernel_rfl) ?_
   change wpStill _ _ (World.drew _) (fun a' => wpList _ _ _ _ a' (World.drew _)) _ _
   simp only [List.take_succ_cons, List.take_zero, List.drop_succ_cons, List.drop_zero]
   repeat still_step
   refine wpStill_nil ?_
   go_wp2_with fail
   go_roundw
   case rel =>
    have SA : Stp (fun c => c = k) o3 o3 w3 (w3.setCell ⟨ge, 26, none⟩ (.int .i64 mm)).drew := ⟨((Frm.refl _ _).setCell (.inl X3.out.og) _).drew, Agr.refl _ _⟩
    have XA := X3.out.putI SA x.now x.limit x.sent x.m0 x.m1 x.m2 x.m3 x.m4 x.m5 x.m6 mm (Blk.drew (by simpa using X3.out.blk.set 26 (.int .i64 mm)))
    exact ⟨j + 1, o3, v', lost3, mm, hjl, by go_num, XA, T3.out.trans SA, hlo3⟩
   case measure => simp [intOf]; omega
  ·have j1 : ¬ (j : Int) < (ls.length : Int) := by omega
   obtain rfl : j = ls.length := by omega
   go_wp2_with fail
   go_end0
   exact ⟨rfl, o1, vl1, lost1, m1, X1.out, S1.out, hlo1⟩
theorem given_any (o : Nat → Nat) (k B : Nat) (w : World) (ge : Nat) (x : EndV) (v : Value) (ls : List O4) (h : EndS o k B w ge x) (hB : B ≤ w.heap.size) (hr : RG outc 4 w v ls) (hv : ∀ j, v.ownBlock = some j → o j ≠ k ∧ j < w.heap.size) (hl : x.lost.length + ls.length ≤ 100000000) :
  Calls Tryz.prog 60 #[.pointer (some ⟨ge, 0, none⟩), v] w fun e w' => GivenR o k B w ge x ls.length e w' := given_any' o k B w ge x v ls h hB hr (fun j hj => (hv j hj).1) hl
def EJoinR (o : Nat → Nat) (k B : Nat) (w : World) (ge : Nat) (x : EndV) (i : Nat) (e : Ending) (w' : World) : Prop :=
 e = .returned (.tuple #[]) ∧ ∃ (o' : Nat → Nat) (x1 : EndV) (d : List Pk) (n : Int), EndS o' k B w' ge { x1 with due := x1.due.set i n } ∧ Stp (EC k) o o' w w' ∧ Grw x x1 d
set_option maxHeartbeats 8000000 in
set_option maxRecDepth 100000 in
theorem ejoin_any (o : Nat → Nat) (k B : Nat) (w : World) (ge : Nat) (x : EndV) (i : Nat) (q : PathV) (h : EndS o k B w ge x) (hB : B ≤ w.heap.size) (hi : x.ps[i]? = some q) (hd : x.due.length = x.ps.length) (hl : x.es.length ≤ 100000000) (hl2 : x.outs.length ≤ 100000000) :
  Calls Tryz.prog 59 #[.pointer (some ⟨ge, 0, none⟩), .int .i64 (i : Int)] w fun e w' => EJoinR o k B w ge x i e w' := by
 have H := hid h
 have HQ := hid hi
 have kp := h.kp
 have hil := (List.getElem?_eq_some_iff.1 hi).1
 have np := h.np
 have qs0 : Hid (0 ≤ q.s) := hid (h.c9 i q hi).r.s0.1
 clear h hi
 have TAIL : Hid (∀ (o1 : Nat → Nat) (w1 : World) (x1 : EndV), EndS o1 k B w1 ge x1 → x1.due.length = x.due.length → ∃ (ad : Addr) (c : Nat) (old : Int), w1.cell? ⟨ge, 10, none⟩ = some (.slice (some ad) x.due.length c) ∧ w1.cell? ⟨ge, 8, none⟩ = some (.int .i64 x1.now) ∧ w1.cell? ⟨ge, 5, none⟩ = some (.int .i64 x1.c5) ∧ w1.cell? (ad.add i) = some (.int .i64 old) ∧ w1.frozen? (ad.add i) = false ∧ ∀ n : Int, EndS o1 k B (w1.setCell (ad.add i) (.int .i64 n)) ge { x1 with due := x1.due.set i n } ∧ Stp (fun c => c = k + 2) o1 o1 w1 (w1.setCell (ad.add i) (.int .i64 n))) := hid (fun o1 w1 x1 hx hdl => by
  have c10 := hx.blk.cell 10
  have c8 := hx.blk.cell 8
  have c5 := hx.blk.cell 5
  simp only [gA, gZ, gC] at c10 c8 c5
  have ho := hx.c2.r
  have hlt : i < x1.due.length := by omega
  rcases ho.2 with ⟨e, h0⟩ | ⟨gd, cap, cur, e, _⟩
  ·omega
  ·have hea : (⟨gd, 0, none⟩ : Addr).add i = ⟨gd, i, none⟩ := by
    by_cases h0 : i = 0
    ·subst h0; exact addr_zero _
    ·rw [addr_pos _ _ h0]; simp
   rw [e] at c10 ho
   have hcell := ho.cellAt i (by omega)
   rw [List.getElem?_map, List.getElem?_eq_getElem hlt] at hcell
   have hog : o1 gd = k + 2 := (hx.c2.ow gd (by rw [e]; rfl)).1
   refine ⟨⟨gd, 0, none⟩, cap, x1.due[i], by rw [← hdl]; exact c10, c8, c5, by rw [hea]; exact hcell, by rw [hea]; exact ho.frozenAt i, fun n => ?_⟩
   rw [hea]
   have s : Stp (fun c => c = k + 2) o1 o1 w1 (w1.setCell ⟨gd, i, none⟩ (.int .i64 n)) := ⟨(Frm.refl _ _).setCell (.inl hog) _, Agr.refl _ _⟩
   refine ⟨hx.put2 s ⟨?_, hx.c2.ow.frm (Agr.refl _ _) s.size⟩, s⟩
   have hst := (ho.stored i (.int .i64 n)).1
   rw [e, List.length_set, List.map_set]
   exact hst)
 go_enter Tryz.func59, Tryz.ntmps59
 go_wp2_with fail
 refine (say_any o k B w ge x ⟨1, (i : Int), 0, 0, 0, [], false, 0, 0⟩ (.slice none 0 0) i q H.out hB (BV.nil _ _) HQ.out rfl hl hl2).mono ?_
 intro e w2 hsay
 obtain ⟨n1, b1, o2, x2, d2, rfl, hx2, hs2, hg2, hdl2⟩ : ∃ (n : Int) (b : Bool) (o2 : Nat → Nat) (x2 : EndV) (d : List Pk), e = .returned (.tuple #[.int .i64 n, .bool b]) ∧ EndS o2 k B w2 ge x2 ∧ Stp (EC k) o o2 w w2 ∧ Grw x x2 d ∧ x2.due = x.due := by
  rcases hsay with ⟨_, rfl, hb⟩ | ⟨hs, rfl, o2, vE, vO, m0, m1, m2, hx, hst⟩
  ·exact ⟨_, _, o, x, [], rfl, H.out.below hb, Stp.below hb, Grw.refl x, rfl⟩
  ·refine ⟨_, _, o2, _, [⟨1, (i : Int), q.s, 0, 0, [], false, 0, 0⟩], rfl, hx, hst, ⟨rfl, rfl, rfl, by simp, ?_, Nat.le_refl _, fun p hp => by rw [List.mem_singleton.1 hp]; exact Nat.zero_le _⟩, rfl⟩
   have h1 := said_set (q' := { q with s := q.s + 1 }) HQ.out
   have h0 := qs0.out
   dsimp only at h1 ⊢
   simp only [List.length_cons, List.length_nil]
   omega
 have X2 := hid hx2
 have S2 := hid hs2
 have G2 := hid hg2
 obtain ⟨ad, cD, old, t10, t8, t5, tc, tf, tput⟩ := TAIL.out o2 w2 x2 hx2 (by rw [hdl2])
 have TP := hid tput
 have i0 : (0 : Int) ≤ (i : Int) := by omega
 have i1 : (i : Int) < (x.due.length : Int) := by omega
 obtain ⟨nn, hnn⟩ : ∃ z, IntKind.i64.wrap (x2.now + x2.c5) = z := ⟨_, rfl⟩
 clear hsay hx2 hs2 hg2 tput
 go_wp2_with fail
 refine wp_region_still_tail (id := 1) 16 (by kernel_rfl) (by kernel_rfl) ?_
 change wpStill _ _ (World.drew _) (fun a' => wpList _ _ _ _ a' (World.drew _)) _ _
 simp only [List.take_succ_cons, List.take_zero, List.drop_succ_cons, List.drop_zero]
 repeat still_step
 refine wpStill_nil ?_
 go_wp2_with fail
 go_end0
 obtain ⟨hx3, hs3⟩ := TP.out nn
 exact ⟨rfl, o2, x2, d2, nn, hx3.drew, S2.out.trans ((hs3.mono (fun c hc => by rw [hc]; exact ⟨by omega, by omega⟩)).drew), G2.out⟩
end

section
/-- What is read of a path. -/
theorem EndS.pth {o : Nat → Nat} {k B : Nat} {w : World} {ge : Nat} {x : EndV} (h : EndS o k B w ge x) {i : Nat} {q : PathV} (hi : x.ps[i]? = some q) : ∃ (ad : Addr) (c : Nat), x.vP = .slice (some ad) x.ps.length c ∧ w.cell? ⟨ge, 9, none⟩ = some (.slice (some ad) x.ps.length c) ∧ w.cell? (ad.add i) = some (.pointer (some ⟨q.gp, 0, none⟩)) ∧
  w.cell? ⟨q.gp, 0, none⟩ = some (.bool q.u) ∧ w.cell? ⟨q.gp, 1, none⟩ = some (.bool q.j) ∧ w.cell? ⟨q.gp, 3, none⟩ = some (.int .i64 q.s) ∧ w.frozen? ⟨q.gp, 0, none⟩ = false ∧ w.frozen? ⟨q.gp, 1, none⟩ = false := by
 obtain ⟨A, c, hv, hc, hel⟩ := h.path
 obtain ⟨ad, hA, d, _⟩ := hel i q hi
 have c9 := h.blk.cell 9
 simp only [gA, gZ, gC] at c9
 rw [hv, hA] at c9
 have b := (h.c9 i q hi).r.blk
 exact ⟨ad, c, by rw [hv, hA], c9, d, b.cell 0, b.cell 1, b.cell 3, b.free 0, b.free 1⟩
theorem EndS.setU {o : Nat → Nat} {k B : Nat} {w : World} {ge : Nat} {x : EndV} (h : EndS o k B w ge x) {i : Nat} {q : PathV} (hi : x.ps[i]? = some q) (b : Bool) : EndS o k B (w.setCell ⟨q.gp, 0, none⟩ (.bool b)) ge { x with ps := x.ps.set i { q with u := b } } ∧ Stp (fun c => c = k + 10 + i) o o w (w.setCell ⟨q.gp, 0, none⟩ (.bool b)) := by
 have c := h.c9 i q hi
 have s : Stp (fun c => c = k + 10 + i) o o w (w.setCell ⟨q.gp, 0, none⟩ (.bool b)) := ⟨(Frm.refl _ _).setCell (.inl (c.ow _ (.inl rfl))) _, Agr.refl _ _⟩
 exact ⟨h.put9 hi s (q' := { q with u := b }) rfl ⟨c.r.setU, c.ow, c.l⟩, s⟩
theorem EndS.setJ {o : Nat → Nat} {k B : Nat} {w : World} {ge : Nat} {x : EndV} (h : EndS o k B w ge x) {i : Nat} {q : PathV} (hi : x.ps[i]? = some q) (b : Bool) : EndS o k B (w.setCell ⟨q.gp, 1, none⟩ (.bool b)) ge { x with ps := x.ps.set i { q with j := b } } ∧ Stp (fun c => c = k + 10 + i) o o w (w.setCell ⟨q.gp, 1, none⟩ (.bool b)) := by
 have c := h.c9 i q hi
 have s : Stp (fun c => c = k + 10 + i) o o w (w.setCell ⟨q.gp, 1, none⟩ (.bool b)) := ⟨(Frm.refl _ _).setCell (.inl (c.ow _ (.inl rfl))) _, Agr.refl _ _⟩
 exact ⟨h.put9 hi s (q' := { q with j := b }) rfl ⟨c.r.setJ, c.ow, c.l⟩, s⟩
theorem said_same {ps : List PathV} {i : Nat} {q q' : PathV} (h : ps[i]? = some q) (hs : q'.s = q.s) : said (ps.set i q') = said ps := by
 have := said_set (q' := q') h
 rw [hs] at this
 omega
theorem EOk.path {N : Nat} {x : EndV} (h : EOk N x) {i : Nat} {q q' : PathV} (hi : x.ps[i]? = some q) (hs : q'.s = q.s) : EOk N { x with ps := x.ps.set i q' } := by
 obtain ⟨h1, h2, h3, h4, h5, h6, h7, h8, h9, h10⟩ := h
 have := said_same hi hs
 exact ⟨by simpa using h1, by simpa using h2, by simpa using h3, h4, h5, h6, h7, by dsimp only; omega, by dsimp only; omega, h10⟩
theorem EOk.ev {N : Nat} {x : EndV} (h : EOk N x) (hN : N + 500000 ≤ 40000000) (vE : Value) (ev : Ev) (m : Int) : EOk (N + 500000) { x with vE := vE, es := x.es ++ [ev], m0 := m } := by
 obtain ⟨h1, h2, h3, h4, h5, h6, h7, h8, h9, h10⟩ := h
 exact ⟨h1, h2, h3, h4, h5, by dsimp only; omega, by dsimp only; omega, by simp; omega, by dsimp only; omega, hN⟩
theorem EOk.up {N M : Nat} {x : EndV} (h : EOk N x) (hM : N ≤ M) (hN : M ≤ 40000000) : EOk M x := by
 obtain ⟨h1, h2, h3, h4, h5, h6, h7, h8, h9, h10⟩ := h
 exact ⟨h1, h2, h3, h4, h5, by omega, by omega, by omega, by omega, hN⟩
theorem Act.join {N : Nat} {x y : EndV} {d : List Ev} {z : EndV} {p : List Pk} (h : Act N x y d) (g : Grw y z p) (i : Nat) (n : Int) : Act N x { z with due := z.due.set i n } (d ++ p.map fun p => ⟨5, 0, [], p⟩) := by
 have h2 := h.pump g
 obtain ⟨h1, h2', h3, h4, h5, h6, h7, h8, h9, h10⟩ := h2.ok
 exact ⟨h2.es, h2.outs, ⟨h1, by simpa using h2', h3, h4, h5, h6, h7, h8, h9, h10⟩, h2.side, h2.sm⟩
set_option maxHeartbeats 8000000 in
set_option maxRecDepth 100000 in
theorem eup_any (o : Nat → Nat) (k B N : Nat) (w : World) (ge : Nat) (x : EndV) (i : Int) (h : EndS o k B w ge x) (hok : EOk N x) (hN : N + 500000 ≤ 40000000) (hB : B ≤ w.heap.size) :
  Calls Tryz.prog 43 #[.pointer (some ⟨ge, 0, none⟩), .int .i64 i] w fun e w' => ∃ q : Bool, e = .returned (.bool q) ∧ CallR o k B N w ge x w' := by
 have H := hid h
 have OK := hid hok
 have kp := h.kp
 have hsl := h.said_le
 have hes := hok.es
 have hou := hok.outs
 have hNN := hok.N
 have np := h.np
 have NO : Hid (CallR o k B N w ge x w) := hid ⟨o, x, [], h, Stp.refl _ _ _, Act.refl hok hN, fun e h => by cases h⟩
 rcases Int.lt_or_le i 0 with i0 | i0
 ·clear h hok
  go_enter Tryz.func43, Tryz.ntmps43
  go_wp2_with fail
  go_ret
  exact ⟨_, rfl, NO.out⟩
 rcases Int.lt_or_le i (x.ps.length : Int) with i1 | i1
 ·obtain ⟨n, rfl⟩ : ∃ n : Nat, i = n := ⟨i.toNat, by omega⟩
  have hil : n < x.ps.length := by omega
  obtain ⟨q, hq⟩ : ∃ q, x.ps[n]? = some q := ⟨_, List.getElem?_eq_getElem hil⟩
  have HQ := hid hq
  obtain ⟨ad, c, hvP, c9, d, u0, u1, u3, f0, f1⟩ := h.pth hq
  rcases hu : q.u with _ | _
  ·rw [hu] at u0
   clear h hok hq
   go_enter Tryz.func43, Tryz.ntmps43
   go_wp2_with fail
   refine (event_any o k B w ge x ⟨7, (n : Int), [], noPk⟩ (.slice none 0 0) (.slice none 0 0) H.out hB ⟨BV.nil _ _, BV.nil _ _⟩ (by omega)).mono ?_
   rintro e w2 ⟨rfl, o2, vE, m0, hx2, hs2⟩
   have X2 := hid hx2
   have T2 : Hid (Stp (EC k) o o2 w w2) := hid (hs2.mono (fun c hc => by rcases hc with rfl | rfl; exact ⟨by omega, by omega⟩; exact ⟨by omega, by omega⟩))
   clear hx2 hs2 c9 d u0 u1 u3 f0 f1
   obtain ⟨ad2, c2, hvP2, c9, d, u0, u1, u3, f0, f1⟩ := X2.out.pth (i := n) (q := q) HQ.out
   dsimp only at c9 hvP2
   have hne : ad2 = ad ∧ c2 = c := by
    rw [hvP] at hvP2
    injection hvP2 with e1 e2 e3
    injection e1 with e1
    exact ⟨e1.symm, e3.symm⟩
   obtain ⟨rfl, rfl⟩ := hne
   obtain ⟨hx3, hs3⟩ := X2.out.setU (i := n) (q := q) HQ.out true
   have X3 := hid hx3
   have T3 := hid (T2.out.trans (hs3.mono (fun c hc => by rw [hc]; exact ⟨by omega, by omega⟩)))
   have OK3 : Hid (EOk (N + 500000) { x with vE := vE, es := x.es ++ [⟨7, (n : Int), [], noPk⟩], m0 := m0, ps := x.ps.set n { q with u := true } }) := hid ((OK.out.ev (by omega) vE _ m0).path (q' := { q with u := true }) HQ.out rfl)
   clear hx3 hs3
   have AC : Hid (Act (N + 500000) x { x with vE := vE, es := x.es ++ [⟨7, (n : Int), [], noPk⟩], m0 := m0, ps := x.ps.set n { q with u := true } } [⟨7, (n : Int), [], noPk⟩]) := hid ⟨rfl, by simp [sents], OK3.out.up (by omega) hN, rfl, fun e he => by rw [List.mem_singleton.1 he]; exact ⟨Nat.zero_le _, Nat.zero_le _⟩⟩
   have hq3 : (x.ps.set n { q with u := true })[n]? = some { q with u := true } := by rw [List.getElem?_set, if_pos rfl, if_pos hil]
   obtain ⟨ad3, c3, hvP3, g9, gd, gu0, gu1, gu3, gf0, gf1⟩ := X3.out.pth (i := n) hq3
   have g7 := X3.out.blk.cell 7
   have g9' := X3.out.blk.cell 9
   simp only [gA, gZ, gC] at g7 g9'
   dsimp only at g9 gd gu1 hvP3
   have hne : ad3 = ad2 ∧ c3 = c2 := by
    rw [hvP] at hvP3
    injection hvP3 with e1 e2 e3
    injection e1 with e1
    exact ⟨e1.symm, e3.symm⟩
   obtain ⟨rfl, rfl⟩ := hne
   simp only [List.length_set] at g9
   have HQ3 := hid hq3
   have KD : ∀ e ∈ ([⟨7, (n : Int), [], noPk⟩] : List Ev), e.kind ≠ 4 := by intro e he; rw [List.mem_singleton] at he; subst he; simp
   have HK := hid KD
   clear hq3 KD hvP2 hvP3 g9'
   by_cases hsd : x.side = 0
   ·have hsb : (x.side == 0) = true := by rw [beq_iff_eq]; exact hsd
    clear hsd
    rcases hj : q.j with _ | _
    ·rw [hj] at gu1
     have hes3 := OK3.out.es
     have hou3 := OK3.out.outs
     have hsl3 := X3.out.said_le
     dsimp only at hes3 hou3 hsl3
     clear u1
     go_wp2_with fail
     refine (ejoin_any o2 k B _ ge _ n { q with u := true } X3.out (Nat.le_trans hB T3.out.size) HQ3.out (by have := OK3.out.nd; exact this) (by dsimp only; omega) (by dsimp only; omega)).mono ?_
     rintro e w4 ⟨rfl, o4, x4, d4, n4, hx4, hs4, hg4⟩
     have FIN : Hid (CallR o k B N w ge x w4) := hid ⟨o4, _, _, hx4, T3.out.trans hs4, AC.out.join hg4 n n4, fun e he => by
      rcases List.mem_append.1 he with h | h
      ·exact HK.out e h
      ·obtain ⟨p, _, rfl⟩ := List.mem_map.1 h
       simp⟩
     clear hx4 hs4 hg4
     go_wp2_with fail
     go_ret
     exact ⟨_, rfl, FIN.out⟩
    ·rw [hj] at gu1
     clear u1
     go_wp2_with fail
     refine (pump_any o2 k B _ _ ge _ X3.out AC.out.ok (Nat.le_trans hB T3.out.size)).mono ?_
     intro e w4 hp
     have HP := hid (CallR.pump T3.out AC.out HK.out hp)
     obtain ⟨rfl, _⟩ := hp
     go_wp2_with fail
     go_ret
     exact ⟨_, rfl, HP.out⟩
   ·have hsb : (x.side == 0) = false := by rw [beq_eq_false_iff_ne]; exact hsd
    clear hsd
    go_wp2_with fail
    refine (pump_any o2 k B _ _ ge _ X3.out AC.out.ok (Nat.le_trans hB T3.out.size)).mono ?_
    intro e w4 hp
    have HP := hid (CallR.pump T3.out AC.out HK.out hp)
    obtain ⟨rfl, _⟩ := hp
    go_wp2_with fail
    go_ret
    exact ⟨_, rfl, HP.out⟩
  ·rw [hu] at u0
   clear h hok hq
   go_enter Tryz.func43, Tryz.ntmps43
   go_wp2_with fail
   go_ret
   exact ⟨_, rfl, NO.out⟩
 ·have c9 := h.blk.cell 9
  simp only [gA, gZ, gC] at c9
  obtain ⟨A, c, hv, _⟩ := h.path
  rw [hv] at c9
  clear h hok hv
  go_enter Tryz.func43, Tryz.ntmps43
  go_wp2_with fail
  go_ret
  exact ⟨_, rfl, NO.out⟩
end

section
theorem EOk.putL {N M : Nat} {x : EndV} (h : EOk N x) (vl : Value) (lost : List (Int × Int)) (m : Int) (hl : lost.length ≤ M) (hM : N ≤ M) (hN : M ≤ 40000000) : EOk M { x with vl := vl, lost := lost, m7 := m } := by
 obtain ⟨h1, h2, h3, h4, h5, h6, h7, h8, h9, h10⟩ := h
 exact ⟨h1, h2, h3, h4, h5, hl, by dsimp only; omega, by dsimp only; omega, by dsimp only; omega, hN⟩
theorem mkAct {o : Nat → Nat} {k B N : Nat} {w : World} {ge : Nat} {x y : EndV} {d : List Ev} (hx : EndS o k B w ge y) (h1 : y.es = x.es ++ d) (h2 : y.outs = x.outs ++ sents d) (h3 : EOk N y) (h4 : y.side = x.side) (h5 : ∀ e ∈ d, e.data.length ≤ 1000000 ∧ e.pk.data.length ≤ 1000000) : Act N x y d := ⟨h1, h2, h3, h4, h5⟩
theorem EndS.dropF {o : Nat → Nat} {k B : Nat} {w : World} {ge : Nat} {x : EndV} (h : EndS o k B w ge x) {i : Nat} {q : PathV} (hi : x.ps[i]? = some q) : EndS o k B (w.setCell ⟨q.gp, 6, none⟩ (.slice none 0 0)) ge { x with ps := x.ps.set i { q with v := .slice none 0 0, l := [] } } ∧ Stp (fun c => c = k + 10 + i) o o w (w.setCell ⟨q.gp, 6, none⟩ (.slice none 0 0)) ∧ RG outc 4 (w.setCell ⟨q.gp, 6, none⟩ (.slice none 0 0)) q.v q.l ∧ (∀ j, q.v.ownBlock = some j → o j ≠ k ∧ j < (w.setCell ⟨q.gp, 6, none⟩ (.slice none 0 0)).heap.size) := by
 have c := h.c9 i q hi
 have kp := h.kp
 have s : Stp (fun c => c = k + 10 + i) o o w (w.setCell ⟨q.gp, 6, none⟩ (.slice none 0 0)) := ⟨(Frm.refl _ _).setCell (.inl (c.ow _ (.inl rfl))) _, Agr.refl _ _⟩
 refine ⟨h.put9 hi s (q' := { q with v := .slice none 0 0, l := [] }) rfl ⟨c.r.setF (v' := .slice none 0 0) (l' := []) (World.ownsRow_nil _ _ _ _) (fun j hj => by cases hj), fun j hj => ?_, Nat.zero_le _⟩, s, ?_, fun j hj => ⟨?_, ?_⟩⟩
 ·rcases hj with hj | hj | hj | hj
  ·exact c.ow j (.inl hj)
  ·exact c.ow j (.inr (.inl hj))
  ·exact c.ow j (.inr (.inr (.inl hj)))
  ·cases hj
 ·exact (Sl.of_own c.r.l (rowc_one outc_one q.l)).frm ((Frm.refl (· = q.gp) w).setg (i := 6) _) (fun j hj e => (c.r.own j hj).1 e)
 ·have := c.ow j (.inr (.inr (.inr hj)))
  omega
 ·exact Nat.lt_of_lt_of_le (c.r.l.lt j hj).2 s.size
set_option maxHeartbeats 8000000 in
set_option maxRecDepth 100000 in
theorem edown_any (o : Nat → Nat) (k B N : Nat) (w : World) (ge : Nat) (x : EndV) (i : Int) (h : EndS o k B w ge x) (hok : EOk N x) (hN : N + 500000 ≤ 40000000) (hB : B ≤ w.heap.size) :
  Calls Tryz.prog 44 #[.pointer (some ⟨ge, 0, none⟩), .int .i64 i] w fun e w' => ∃ q : Bool, e = .returned (.bool q) ∧ CallR o k B N w ge x w' := by
 have H := hid h
 have OK := hid hok
 have kp := h.kp
 have hsl := h.said_le
 have hes := hok.es
 have hou := hok.outs
 have hNN := hok.N
 have np := h.np
 have NO : Hid (CallR o k B N w ge x w) := hid ⟨o, x, [], h, Stp.refl _ _ _, Act.refl hok hN, fun e h => by cases h⟩
 rcases Int.lt_or_le i 0 with i0 | i0
 ·clear h hok
  go_enter Tryz.func44, Tryz.ntmps44
  go_wp2_with fail
  go_ret
  exact ⟨_, rfl, NO.out⟩
 rcases Int.lt_or_le i (x.ps.length : Int) with i1 | i1
 ·obtain ⟨n, rfl⟩ : ∃ n : Nat, i = n := ⟨i.toNat, by omega⟩
  have hil : n < x.ps.length := by omega
  obtain ⟨q, hq⟩ : ∃ q, x.ps[n]? = some q := ⟨_, List.getElem?_eq_getElem hil⟩
  have HQ := hid hq
  obtain ⟨ad, c, hvP, c9, d, u0, u1, u3, f0, f1⟩ := h.pth hq
  rcases hu : q.u with _ | _
  ·rw [hu] at u0
   clear h hok hq
   go_enter Tryz.func44, Tryz.ntmps44
   go_wp2_with fail
   go_ret
   exact ⟨_, rfl, NO.out⟩
  ·rw [hu] at u0
   clear h hok hq
   go_enter Tryz.func44, Tryz.ntmps44
   go_wp2_with fail
   refine (event_any o k B w ge x ⟨8, (n : Int), [], noPk⟩ (.slice none 0 0) (.slice none 0 0) H.out hB ⟨BV.nil _ _, BV.nil _ _⟩ (by omega)).mono ?_
   rintro e w2 ⟨rfl, o2, vE, m0, hx2, hs2⟩
   have X2 := hid hx2
   have T2 : Hid (Stp (EC k) o o2 w w2) := hid (hs2.mono (fun c hc => by rcases hc with rfl | rfl; exact ⟨by omega, by omega⟩; exact ⟨by omega, by omega⟩))
   clear hx2 hs2 c9 d u0 u1 u3 f0 f1
   obtain ⟨ad2, c2, hvP2, c9, d, u0, u1, u3, f0, f1⟩ := X2.out.pth (i := n) (q := q) HQ.out
   dsimp only at c9 hvP2
   have hne : ad2 = ad ∧ c2 = c := by
    rw [hvP] at hvP2
    injection hvP2 with e1 e2 e3
    injection e1 with e1
    exact ⟨e1.symm, e3.symm⟩
   obtain ⟨rfl, rfl⟩ := hne
   obtain ⟨hx3, hs3⟩ := X2.out.setU (i := n) (q := q) HQ.out false
   have X3 := hid hx3
   have T3 := hid (T2.out.trans (hs3.mono (fun c hc => by rw [hc]; exact ⟨by omega, by omega⟩)))
   have OK3 : Hid (EOk (N + 500000) { x with vE := vE, es := x.es ++ [⟨8, (n : Int), [], noPk⟩], m0 := m0, ps := x.ps.set n { q with u := false } }) := hid ((OK.out.ev (by omega) vE _ m0).path (q' := { q with u := false }) HQ.out rfl)
   clear hx3 hs3
   have AC : Hid (Act (N + 500000) x { x with vE := vE, es := x.es ++ [⟨8, (n : Int), [], noPk⟩], m0 := m0, ps := x.ps.set n { q with u := false } } [⟨8, (n : Int), [], noPk⟩]) := hid ⟨rfl, by simp [sents], OK3.out.up (by omega) hN, rfl, fun e he => by rw [List.mem_singleton.1 he]; exact ⟨Nat.zero_le _, Nat.zero_le _⟩⟩
   have hq3 : (x.ps.set n { q with u := false })[n]? = some { q with u := false } := by rw [List.getElem?_set, if_pos rfl, if_pos hil]
   obtain ⟨ad3, c3, hvP3, g9, gd, gu0, gu1, gu3, gf0, gf1⟩ := X3.out.pth (i := n) hq3
   dsimp only at g9 gd hvP3
   have hne : ad3 = ad2 ∧ c3 = c2 := by
    rw [hvP] at hvP3
    injection hvP3 with e1 e2 e3
    injection e1 with e1
    exact ⟨e1.symm, e3.symm⟩
   obtain ⟨rfl, rfl⟩ := hne
   simp only [List.length_set] at g9
   have P3 := (X3.out.c9 n _ hq3).r
   have l3 := (X3.out.c9 n _ hq3).l
   have s03 := P3.s0
   have g6 := P3.blk.cell 6
   have gf6 := P3.blk.free 6
   simp only [gA, gZ, gC] at g6
   dsimp only at g6 gf6 l3 s03
   obtain ⟨hx5, hs5, hr5, hv5⟩ := X3.out.dropF (i := n) hq3
   have X5 := hid hx5
   have T5 := hid (T3.out.trans (hs5.mono (fun c hc => by rw [hc]; exact ⟨by omega, by omega⟩)))
   have R5 := hid hr5
   have V5 := hid hv5
   have OK5 := hid (OK3.out.path (i := n) (q' := { q with u := false, v := .slice none 0 0, l := [] }) hq3 rfl)
   have HQ3 := hid hq3
   have KD : ∀ e ∈ ([⟨8, (n : Int), [], noPk⟩] : List Ev), e.kind ≠ 4 := by intro e he; rw [List.mem_singleton] at he; subst he; simp
   have HK := hid KD
   have hlo := OK.out.lost
   have RG3 : Hid (RG outc 4 (w2.setCell ⟨q.gp, 0, none⟩ (.bool false)) q.v q.l) := hid (Sl.of_own P3.l (rowc_one outc_one q.l))
   clear hq3 KD hvP2 hvP3 hx5 hs5 hr5 hv5 gu0 gu1 gu3 gf0 gf1 P3
   go_wp2_with fail
   refine (drop_any _ q.gp 6 q.v q.l g6 gf6 RG3.out).mono ?_
   rintro e w4 ⟨rfl, rfl⟩
   obtain ⟨w4, hw4⟩ := lx ((w2.setCell ⟨q.gp, 0, none⟩ (.bool false)).setCell ⟨q.gp, 6, none⟩ (.slice none 0 0))
   (try dsimp only at X5 T5 R5 V5)
   rw [← hw4] at X5 T5 R5 V5 ⊢
   clear hw4 g9 gd g6 gf6 c9 d f0 f1 u0 u1 u3
   obtain ⟨Av, cv, hvv, _, _⟩ := R5.out.len
   have R6 : Hid (RG outc 4 w4 (.slice Av q.l.length cv) q.l) := hid (by have h1 : RG outc 4 w4 q.v q.l := R5.out; have h2 : q.v = .slice Av q.l.length cv := hvv; rw [h2] at h1; exact h1)
   have V6 : Hid (∀ j, (Value.slice Av q.l.length cv).ownBlock = some j → o2 j ≠ k ∧ j < w4.heap.size) := hid (by have h1 : ∀ j, q.v.ownBlock = some j → o2 j ≠ k ∧ j < w4.heap.size := V5.out; have h2 : q.v = .slice Av q.l.length cv := hvv; rw [h2] at h1; exact h1)
   have hvv2 : q.v = .slice Av q.l.length cv := hvv
   clear hvv
   go_wp2_with fail
   refine (given_any o2 k B w4 ge _ (.slice Av q.l.length cv) q.l X5.out (Nat.le_trans hB T5.out.size) R6.out V6.out (by dsimp only; omega)).mono ?_
   rintro e w5 ⟨rfl, o6, vl6, lost6, m6, hx6, hs6, hl6⟩
   have X6 := hid hx6
   have T6 := hid (T5.out.trans (hs6.mono (fun c hc => by rw [hc]; exact ⟨by omega, by omega⟩)))
   dsimp only at hl6
   have AC6 := hid (mkAct (x := x) (d := [⟨8, (n : Int), [], noPk⟩]) X6.out rfl (by simp [sents]) (OK5.out.putL (M := N + 500000) vl6 lost6 m6 (by omega) (by omega) hN) rfl (fun e he => by rw [List.mem_singleton.1 he]; exact ⟨Nat.zero_le _, Nat.zero_le _⟩))
   clear hx6 hs6
   go_wp2_with fail
   refine (pump_any o6 k B _ w5 ge _ X6.out AC6.out.ok (Nat.le_trans hB T6.out.size)).mono ?_
   intro e w7 hp
   have HP := hid (CallR.pump T6.out AC6.out HK.out hp)
   obtain ⟨rfl, _⟩ := hp
   go_wp2_with fail
   go_ret
   exact ⟨_, rfl, HP.out⟩
 ·have c9 := h.blk.cell 9
  simp only [gA, gZ, gC] at c9
  obtain ⟨A, c, hv, _⟩ := h.path
  rw [hv] at c9
  clear h hok hv
  go_enter Tryz.func44, Tryz.ntmps44
  go_wp2_with fail
  go_ret
  exact ⟨_, rfl, NO.out⟩
end
end Go.Proofs.YtdneakejlbabeaaGreat
