/- Parts of the walk: Ep, Ka, Kb, Jb, Jc. -/
import Derived.Test.YtdneakejlbabeaaGreatM00
import Derived.Test.YtdneakejlbabeaaGreatM20
import Derived.Test.YtdneakejlbabeaaGreatM16
import Derived.Test.YtdneakejlbabeaaGreatM18
import Derived.Deep.RegionLaw
import Derived.Deep.RegionHeld3
import Derived.Test.YtdneakejlbabeaaGreatM12
namespace Go.Proofs.YtdneakejlbabeaaGreat
open Go.RowKit
set_option linter.unusedVariables false
set_option linter.unusedSimpArgs false
section
attribute [local go_sem] run_max2' run_min2' run_max_ run_min_
theorem plainL_len {p : Pk} (h : RightP p p.data.length) : (plainL p).length ≤ 1000 := by
 unfold plainL
 have l1 := putN_len p.path
 have l2 := putN_len p.number
 have l3 := putN_len p.of_
 have l4 := putN_len p.from_
 have l5 := putN_len p.data.length
 have l6 := putN_len p.seen
 have l7 := putN_len p.limit
 simp only [List.length_append, List.length_cons, List.length_nil]
 split
 ·omega
 ·split
  ·rename_i h3
   have := h.data1 h3
   simp only [List.length_append, List.length_cons, List.length_nil]
   omega
  ·split
   ·simp only [List.length_append]
    omega
   ·simp
    omega
def PackR (w : World) (p : Pk) (e : Ending) (w' : World) : Prop := ∃ (v' : Value) (q : Bool) (b : List Int), e = .returned (.tuple #[v', .bool q]) ∧ BO w.heap.size w' v' b ∧ (q = true → RightP p p.data.length ∧ b = sealL (plainL p)) ∧ Below w.heap.size w w'
set_option maxHeartbeats 4000000 in
set_option maxRecDepth 100000 in
theorem pack_any (w : World) (p : Pk) (S : Nat → Prop) (v : Value) (h : BV w S v p.data) (hl : p.data.length ≤ 1000000) :
  Calls Tryz.prog 81 #[pagg p v] w fun e w' => PackR w p e w' := by
 have H := hid h
 clear h
 obtain ⟨w0, hw0⟩ := lx (w.alloc (.cells #[.int .i64 p.kind, .int .i64 p.path, .int .i64 p.number, .int .i64 p.of_, .int .i64 p.from_, v, .bool p.fin, .int .i64 p.seen, .int .i64 p.limit] 27))
 obtain ⟨gp, hgp⟩ := lx (w.heap.size)
 have BW : Hid (Below w.heap.size w w0) := hid (by rw [hw0]; exact ba)
 go_enter Tryz.func81, Tryz.ntmps81
 go_wp2_with fail
 rw [← hw0]
 refine (plain_any w0 p S v (H.out.below BW.out) hl).mono ?_
 rintro e w1 ⟨v1, q, b, rfl, ho, hq, hb⟩
 have B1 := hid (bO BW.out hb)
 have O1 := hid ho
 have Q1 := hid hq
 have s0 := BW.out.size
 clear ho hq hb hw0 hgp
 cases q
 ·go_wp2_with fail
  refine bodyPost_ret (results_two rfl _ _ _) rfl ?_
  exact ⟨_, _, _, rfl, BO.nil _ _, (fun h => by cases h), B1.out⟩
 ·obtain ⟨hr, rfl⟩ := Q1.out rfl
  have hlen := plainL_len hr
  have HR := hid hr
  clear hr
  go_wp2_with fail
  refine (seal_any w1 _ v1 _ O1.out.bv (by omega)).mono ?_
  rintro e w2 ⟨v2, rfl, ho2, hb2⟩
  have O2 := hid ho2
  have B2 := hid (bO B1.out hb2)
  clear ho2 hb2
  go_wp2_with fail
  refine bodyPost_ret (results_two rfl _ _ _) rfl ?_
  exact ⟨_, _, _, rfl, ⟨own_base O2.out.1 B1.out.size, O2.out.2⟩, (fun _ => ⟨HR.out, rfl⟩), B2.out⟩
/-- A reader, a packet being taken, the result's cells. -/
structure TP (w W : World) (g gp gr : Nat) (v : Value) (l : List Int) (a : Nat) (b : Bool) (cs : Array Value) : Prop where
 rd : RdC W g v a b
 bv : BV W (fun j => j < w.heap.size ∧ j ≠ g) v l
 pb : Blk W gp cs 27
 rc : Blk W gr #[.int .i64 0, .int .i64 0, .int .i64 0, .int .i64 0, .int .i64 0, .slice none 0 0, .bool false, .int .i64 0, .int .i64 0] 27
 f : Frm (· = g) w W
 le : a ≤ l.length
 n : g < w.heap.size ∧ w.heap.size ≤ gp ∧ w.heap.size ≤ gr ∧ gp ≠ gr
theorem TP.call {w W W' : World} {g gp gr : Nat} {v : Value} {l : List Int} {a a' : Nat} {b b' : Bool} {cs : Array Value} (h : TP w W g gp gr v l a b cs) (hr : RdC W' g v a' b') (ha : a' ≤ l.length) (f : Frm (· = g) W W') : TP w W' g gp gr v l a' b' cs := by
 obtain ⟨n1, n2, n3, n4⟩ := h.n
 exact ⟨hr, h.bv.frm f (fun j hj e => hj.2 e), h.pb.frm f (by omega), h.rc.frm f (by omega), h.f.trans f, ha, h.n⟩
theorem TP.put {w W : World} {g gp gr : Nat} {v : Value} {l : List Int} {a : Nat} {b : Bool} {cs : Array Value} (h : TP w W g gp gr v l a b cs) (k : Nat) (u : Value) : TP w (W.setCell ⟨gp, k, none⟩ u) g gp gr v l a b (cs.setIfInBounds k u) := by
 obtain ⟨n1, n2, n3, n4⟩ := h.n
 exact ⟨h.rd.far (by simp only [ne_eq]; omega) u, h.bv.frm ((Frm.refl (· = gp) W).setg (i := k) u) (fun j hj e => by have := hj.1; omega), h.pb.set k u, h.rc.far (by simp only [ne_eq]; omega) u, h.f.setNew n2 u, h.le, h.n⟩
end

section
/-- Is there such a place? -/
def thereB (n0 n1 : Nat) (tw at_ : Int) : Bool := decide ((tw = 0 ∧ 0 ≤ at_ ∧ at_ < n0) ∨ (tw = 1 ∧ 0 ≤ at_ ∧ at_ < n1))
set_option maxHeartbeats 4000000 in
set_option maxRecDepth 100000 in
theorem there_any (w : World) (gd kk : Nat) (A0 A1 : Option Addr) (n0 n1 d0 d1 : Nat) (tw at_ : Int) (c0 : w.cell? ⟨gd, kk, none⟩ = some (.slice A0 n0 d0)) (c1 : w.cell? ⟨gd, kk + 1, none⟩ = some (.slice A1 n1 d1)) :
  Calls Tryz.prog 79 #[.pointer (some ⟨gd, kk, none⟩), .int .i64 tw, .int .i64 at_] w fun e w' => e = .returned (.bool (thereB n0 n1 tw at_)) ∧ w = w' := by
 unfold thereB
 by_cases h0 : tw = 0
 ·subst h0
  rcases Int.lt_or_le at_ 0 with a0 | a0
  ·rw [decide_eq_false (by omega)]
   go_enter Tryz.func79, Tryz.ntmps79
   go_wp2_with fail
   go_ret
   exact ⟨rfl, rfl⟩
  ·rcases Int.lt_or_le at_ (n0 : Int) with a1 | a1
   ·rw [decide_eq_true (.inl ⟨rfl, a0, a1⟩)]
    go_enter Tryz.func79, Tryz.ntmps79
    go_wp2_with fail
    go_ret
    exact ⟨rfl, rfl⟩
   ·rw [decide_eq_false (by omega)]
    have hd : decide (at_ < (n0 : Int)) = false := decide_eq_false (by omega)
    go_enter Tryz.func79, Tryz.ntmps79
    go_wp2_with fail
    go_ret
    exact ⟨by first | rfl | rw [hd], rfl⟩
 ·by_cases h1 : tw = 1
  ·subst h1
   rcases Int.lt_or_le at_ 0 with a0 | a0
   ·rw [decide_eq_false (by omega)]
    go_enter Tryz.func79, Tryz.ntmps79
    go_wp2_with fail
    go_ret
    exact ⟨rfl, rfl⟩
   ·rcases Int.lt_or_le at_ (n1 : Int) with a1 | a1
    ·rw [decide_eq_true (.inr ⟨rfl, a0, a1⟩)]
     go_enter Tryz.func79, Tryz.ntmps79
     go_wp2_with fail
     go_ret
     exact ⟨rfl, rfl⟩
    ·rw [decide_eq_false (by omega)]
     have hd : decide (at_ < (n1 : Int)) = false := decide_eq_false (by omega)
     go_enter Tryz.func79, Tryz.ntmps79
     go_wp2_with fail
     go_ret
     exact ⟨by first | rfl | rw [hd], rfl⟩
  ·have b0 : (tw == 0) = false := by rw [beq_eq_false_iff_ne]; exact h0
   have b1 : (tw == 1) = false := by rw [beq_eq_false_iff_ne]; exact h1
   rw [decide_eq_false (by omega)]
   go_enter Tryz.func79, Tryz.ntmps79
   go_wp2_with fail
   go_ret
   exact ⟨rfl, rfl⟩
/-- How many there are. -/
def lenB (n0 n1 : Nat) (tw : Int) : Int := if tw = 0 then n0 else if tw = 1 then n1 else 0
set_option maxHeartbeats 4000000 in
set_option maxRecDepth 100000 in
theorem nlen_any (w : World) (gd kk : Nat) (A0 A1 : Option Addr) (n0 n1 d0 d1 : Nat) (tw : Int) (c0 : w.cell? ⟨gd, kk, none⟩ = some (.slice A0 n0 d0)) (c1 : w.cell? ⟨gd, kk + 1, none⟩ = some (.slice A1 n1 d1)) :
  Calls Tryz.prog 33 #[.pointer (some ⟨gd, kk, none⟩), .int .i64 tw] w fun e w' => e = .returned (.int .i64 (lenB n0 n1 tw)) ∧ w = w' := by
 unfold lenB
 by_cases h0 : tw = 0
 ·subst h0
  rw [if_pos rfl]
  go_enter Tryz.func33, Tryz.ntmps33
  go_wp2_with fail
  go_ret
  exact ⟨rfl, rfl⟩
 ·rw [if_neg h0]
  by_cases h1 : tw = 1
  ·subst h1
   rw [if_pos rfl]
   go_enter Tryz.func33, Tryz.ntmps33
   go_wp2_with fail
   go_ret
   exact ⟨rfl, rfl⟩
  ·rw [if_neg h1]
   have b0 : (tw != 0) = true := bne_iff_ne.2 h0
   have b1 : (tw != 1) = true := bne_iff_ne.2 h1
   go_enter Tryz.func33, Tryz.ntmps33
   go_wp2_with fail
   go_ret
   exact ⟨rfl, rfl⟩
end

section
abbrev By2 := List Int × Bool
def bcells (y : By2) (v : Value) : List Value := [v, .bool y.2]
theorem bcells_len (y : By2) (v : Value) : (bcells y v).length = 2 := rfl
theorem liesB : Lies (fun S w (y : By2) x => BV w S x y.1) := ⟨fun h k hT => h.frm k hT, fun h hS => h.mono hS⟩
theorem Tryz.info149 : (Tryz.prog.info? 149).map (fun i => (i.zero, i.size, i.bytes)) = some (some (.agg #[.slice none 0 0, .bool false]), 2, 32) := by kernel_rfl
abbrev BRw (o : Nat → Nat) (B : Nat) (w : World) (v : Value) (l : List By2) : Prop := OutG bcells 2 149 (fun S w (y : By2) x => BV w S x y.1) B (frozen o) w v l
theorem BV.oneC {w : World} {S : Nat → Prop} {v : Value} {l : List Int} (h : BV w S v l) : v.oneCell' = true := by
 obtain ⟨A, c, rfl, _⟩ := h.len
 rfl
theorem bcells_one {w : World} {S : Nat → Prop} {y : By2} {v : Value} (h : BV w S v y.1) : ∀ u ∈ bcells y v, u.oneCell' = true := by
 intro u hu
 simp only [bcells, List.mem_cons, List.not_mem_nil, or_false] at hu
 rcases hu with rfl | rfl
 ·exact h.oneC
 ·rfl
theorem BRw.rv {o : Nat → Nat} {B : Nat} {w : World} {v : Value} {l : List By2} (h : BRw o B w v l) : RowV bcells 2 (fun w y x => BV w (frozen o) x y.1) w v l :=
 OutG.row (fun a b hab => bcells_one hab) h
theorem BRw.at_ {o : Nat → Nat} {B : Nat} {w : World} {A : Option Addr} {n c : Nat} {l : List By2} (h : BRw o B w (.slice A n c) l) {i : Nat} (hi : i < l.length) :
  ∃ ad y v, A = some ad ∧ l[i]? = some y ∧ BV w (frozen o) v y.1 ∧ w.cell? (ad.add (i * 2)) = some v ∧ w.cell? ⟨(ad.add (i * 2)).block, (ad.add (i * 2)).off + 1, none⟩ = some (.bool y.2) := by
 obtain ⟨ad, y, v, rfl, hy, hx, hc⟩ := RowV.at_ h.rv (by omega) bcells_len hi
 have h0 := hc 0 _ rfl
 rw [addr_zero] at h0
 have h1 := hc 1 _ rfl
 rw [addr_pos _ _ (by omega)] at h1
 exact ⟨ad, y, v, rfl, hy, hx, h0, h1⟩
/-- A side as a number. -/
def sI (s : Bool) : Int := if s then 1 else 0
def sN (s : Bool) : Nat := if s then 1 else 0
theorem thereS_any (w : World) (gd : Nat) (o : Nat → Nat) (B : Nat) (V : Bool → Value) (L : Bool → List By2) (s : Bool) (at_ : Int) (c0 : w.cell? ⟨gd, 2, none⟩ = some (V false)) (c1 : w.cell? ⟨gd, 3, none⟩ = some (V true)) (h : ∀ s, BRw o B w (V s) (L s)) :
  Calls Tryz.prog 79 #[.pointer (some ⟨gd, 2, none⟩), .int .i64 (sI s), .int .i64 at_] w fun e w' => e = .returned (.bool (decide (0 ≤ at_ ∧ at_ < (L s).length))) ∧ w = w' := by
 obtain ⟨A0, d0, e0⟩ := (h false).form
 obtain ⟨A1, d1, e1⟩ := (h true).form
 rw [e0] at c0
 rw [e1] at c1
 refine (there_any w gd 2 A0 A1 _ _ d0 d1 (sI s) at_ c0 c1).mono ?_
 rintro e _ ⟨rfl, rfl⟩
 refine ⟨?_, rfl⟩
 unfold thereB
 cases s
 ·rw [show decide ((sI false = 0 ∧ 0 ≤ at_ ∧ at_ < ((L false).length : Int)) ∨ (sI false = 1 ∧ 0 ≤ at_ ∧ at_ < ((L true).length : Int))) = decide (0 ≤ at_ ∧ at_ < ((L false).length : Int)) from by rw [decide_eq_decide]; simp [sI]]
 ·rw [show decide ((sI true = 0 ∧ 0 ≤ at_ ∧ at_ < ((L false).length : Int)) ∨ (sI true = 1 ∧ 0 ≤ at_ ∧ at_ < ((L true).length : Int))) = decide (0 ≤ at_ ∧ at_ < ((L true).length : Int)) from by rw [decide_eq_decide]; simp [sI]]
def NGetR (o : Nat → Nat) (w : World) (l : List By2) (at_ : Int) (e : Ending) (w' : World) : Prop :=
 w = w' ∧ ((∃ (i : Nat) (y : By2) (v : Value), at_ = (i : Int) ∧ l[i]? = some y ∧ BV w (frozen o) v y.1 ∧ e = .returned (.tuple #[v, .bool true])) ∨ (¬ (0 ≤ at_ ∧ at_ < (l.length : Int)) ∧ e = .returned (.tuple #[.slice none 0 0, .bool false])))
set_option maxHeartbeats 4000000 in
set_option maxRecDepth 100000 in
theorem nget_any (w : World) (gd : Nat) (o : Nat → Nat) (B : Nat) (V : Bool → Value) (L : Bool → List By2) (s : Bool) (at_ : Int) (c0 : w.cell? ⟨gd, 2, none⟩ = some (V false)) (c1 : w.cell? ⟨gd, 3, none⟩ = some (V true)) (h : ∀ s, BRw o B w (V s) (L s)) :
  Calls Tryz.prog 70 #[.pointer (some ⟨gd, 2, none⟩), .int .i64 (sI s), .int .i64 at_] w fun e w' => NGetR o w (L s) at_ e w' := by
 have T := hid (thereS_any w gd o B V L s at_ c0 c1 h)
 by_cases hin : 0 ≤ at_ ∧ at_ < ((L s).length : Int)
 ·obtain ⟨a0, a1⟩ := hin
  obtain ⟨i, rfl⟩ : ∃ i : Nat, at_ = (i : Int) := ⟨at_.toNat, by omega⟩
  obtain ⟨A, d, e⟩ := (h s).form
  obtain ⟨ad, y, v, rfl, hy, hx, h0, h1⟩ := BRw.at_ (e ▸ h s) (i := i) (by omega)
  have FIN : Hid (NGetR o w (L s) i (.returned (.tuple #[v, .bool true])) w) := hid ⟨rfl, .inl ⟨i, y, v, rfl, hy, hx, rfl⟩⟩
  rw [decide_eq_true (by exact ⟨a0, a1⟩)] at T
  obtain ⟨n, hn⟩ : ∃ n, (L s).length = n := ⟨_, rfl⟩
  rw [hn] at a1 e
  clear hy hx h hn
  cases s
  all_goals
   first | rw [e] at c0 | rw [e] at c1
   unfold sI at *
   clear e
   go_enter Tryz.func70, Tryz.ntmps70
   go_wp2_with fail
   refine T.out.mono ?_
   rintro e _ ⟨rfl, rfl⟩
   go_wp2_with fail
   refine bodyPost_ret (results_two rfl _ _ _) rfl ?_
   exact FIN.out
 ·rw [decide_eq_false hin] at T
  have FIN : Hid (NGetR o w (L s) at_ (.returned (.tuple #[.slice none 0 0, .bool false])) w) := hid ⟨rfl, .inr ⟨hin, rfl⟩⟩
  clear h hin c0 c1
  go_enter Tryz.func70, Tryz.ntmps70
  go_wp2_with fail
  refine T.out.mono ?_
  rintro e _ ⟨rfl, rfl⟩
  go_wp2_with fail
  refine bodyPost_ret (results_two rfl _ _ _) rfl ?_
  exact FIN.out
end

section
/-- An event's cells in a block. -/
def EB (w : World) (g : Nat) (e : Ev) (x y : Value) : Prop := w.cell? ⟨g, 0, none⟩ = some (.int .i64 e.kind) ∧ w.cell? ⟨g, 1, none⟩ = some (.int .i64 e.n) ∧ w.cell? ⟨g, 2, none⟩ = some x ∧ w.cell? ⟨g, 3, none⟩ = some (.int .i64 e.pk.kind) ∧ w.cell? ⟨g, 4, none⟩ = some (.int .i64 e.pk.path) ∧ w.cell? ⟨g, 5, none⟩ = some (.int .i64 e.pk.number) ∧ w.cell? ⟨g, 6, none⟩ = some (.int .i64 e.pk.of_) ∧
 w.cell? ⟨g, 7, none⟩ = some (.int .i64 e.pk.from_) ∧ w.cell? ⟨g, 8, none⟩ = some y ∧ w.cell? ⟨g, 9, none⟩ = some (.bool e.pk.fin) ∧ w.cell? ⟨g, 10, none⟩ = some (.int .i64 e.pk.seen) ∧ w.cell? ⟨g, 11, none⟩ = some (.int .i64 e.pk.limit)
theorem EB.of {w : World} {g : Nat} {e : Ev} {x y : Value} (h : Blk w g (ecells e (x, y)).toArray 29) : EB w g e x y :=
 ⟨h.cell 0, h.cell 1, h.cell 2, h.cell 3, h.cell 4, h.cell 5, h.cell 6, h.cell 7, h.cell 8, h.cell 9, h.cell 10, h.cell 11⟩
def EventR (o : Nat → Nat) (k B : Nat) (w : World) (ge : Nat) (x : EndV) (ev : Ev) (e : Ending) (w' : World) : Prop :=
 e = .returned (.tuple #[]) ∧ ∃ (o' : Nat → Nat) (v : Value) (m : Int), EndS o' k B w' ge { x with vE := v, es := x.es ++ [ev], m0 := m } ∧ Stp (fun c => c = k ∨ c = k + 7) o o' w w'
set_option maxHeartbeats 8000000 in
set_option maxRecDepth 100000 in
theorem event_any (o : Nat → Nat) (k B : Nat) (w : World) (ge : Nat) (x : EndV) (ev : Ev) (vx vy : Value) (h : EndS o k B w ge x) (hB : B ≤ w.heap.size) (hev : EV w (frozen o) ev (vx, vy)) (hl : x.es.length ≤ 100000000) :
  Calls Tryz.prog 58 #[.pointer (some ⟨ge, 0, none⟩), eagg ev vx vy] w fun e w' => EventR o k B w ge x ev e w' := by
 have H := hid h
 have HE := hid hev
 have HI := hid Tryz.info29
 have gl := h.blk.lt
 obtain ⟨A, c, hvE⟩ := h.c7.r.form
 have c17 := h.blk.cell 17
 simp only [gA, gZ, gC] at c17
 obtain ⟨w0, hw0⟩ := lx (w.alloc (.cells (ecells ev (vx, vy)).toArray 29))
 obtain ⟨gb, hgb⟩ := lx (w.heap.size)
 have B0 : Hid (Below w.heap.size w w0) := hid (by rw [hw0]; exact ba)
 have BX : Hid (Blk w0 gb (ecells ev (vx, vy)).toArray 29) := hid (by rw [hw0, hgb]; exact Blk.new _ _ _)
 have hw0' : w.alloc (.cells #[.int .i64 ev.kind, .int .i64 ev.n, vx, .int .i64 ev.pk.kind, .int .i64 ev.pk.path, .int .i64 ev.pk.number, .int .i64 ev.pk.of_, .int .i64 ev.pk.from_, vy, .bool ev.pk.fin, .int .i64 ev.pk.seen, .int .i64 ev.pk.limit] 29) = w0 := hw0.symm
 obtain ⟨Ax, cx, hvx, _, _⟩ := hev.1.len
 obtain ⟨Ay, cy, hvy, _, _⟩ := hev.2.len
 subst hvx
 subst hvy
 have HV := hid hvE
 rw [hvE] at c17
 have HGB := hid hgb
 clear h hev hw0 hvE
 go_enter Tryz.func58, Tryz.ntmps58
 go_wp2_with fail
 rw [← hgb]
 clear hgb hw0'
 have d17 : w0.cell? ⟨ge, 17, none⟩ = some (.slice A x.es.length c) := (B0.out.cell (p := ⟨ge, 17, none⟩) gl).trans c17
 have d17b := fun o => cell_in_alloc' d17 o
 have d17c := fun o => cell_in_alloc' (show w0.drew.cell? ⟨ge, 17, none⟩ = _ from d17) o
 obtain ⟨k0, k1, k2, k3, k4, k5, k6, k7, k8, k9, k10, k11⟩ := EB.of BX.out
 obtain ⟨vs, r1, r2, r3, r4⟩ := H.out.c7.r
 have R1 : Hid (w0.drew.ownsRow B 29 12 (.slice A x.es.length c) x.es.length (rowsG ecells x.es vs)) := hid (own_frm (HV.out ▸ r1) (Frm.of_below (S := fun _ => False) B0.out.drew) (fun _ _ h => h))
 have RW : Hid (w.ownsRow B 29 12 (.slice A x.es.length c) x.es.length (rowsG ecells x.es vs)) := hid (HV.out ▸ r1)
 have R2 := hid r2
 have R3 := hid r3
 have hone := hid HE.out.one
 have sB : B ≤ w0.drew.heap.size := Nat.le_trans hB B0.out.size
 have OWE := hid (HV.out ▸ H.out.c7.ow : Ow o w (k + 7) (.slice A x.es.length c))
 have ogk := H.out.og
 have hgn : ¬ (Value.slice A x.es.length c).ownBlock = some ge := fun e => by have := (OWE.out ge e).1; omega
 have f17 := H.out.blk.free 17
 clear r1 r2 r3 r4 c17
 first | (go_region_law (first | (refine step_app (v := .slice A x.es.length c) B (by rfl) _ _ 30 29 _ 12 128 (by rfl) Tryz.underlying30 HI.out rfl (by omega) (by omega) (by rfl) (by rfl) (R1.out.alloc _) (Sl.boxk w0.drew 29 12 (ecells ev (.slice Ax ev.data.length cx, .slice Ay ev.pk.data.length cy)) _ (by simp) rfl hone.out) (by omega) (Nat.le_trans sB (by simp)) ?_; intro v7 w7 hown hfr hat; have F7 : Hid (Frm (fun j => (Value.slice A x.es.length c).ownBlock = some j) w w7) := hid (((Frm.of_below B0.out.drew).alloc _).trans hfr); have O7 := hid hown; have HAT : Hid (v7.ownBlock = (Value.slice A x.es.length c).ownBlock ∨ ∀ j, v7.ownBlock = some j → w.heap.size ≤ j) := hid (hat.imp id (fun e j hj => by rw [e] at hj; injection hj with hj; rw [← hj]; exact Nat.le_trans B0.out.size (by simp))); have e17 := (show w7.cell? ⟨ge, 17, none⟩ = w.cell? ⟨ge, 17, none⟩ from World.cell?_of_block (F7.out.block ge gl hgn)).trans (H.out.blk.cell 17); have g17 := (show w7.frozen? ⟨ge, 17, none⟩ = w.frozen? ⟨ge, 17, none⟩ from World.frozen?_of_block (F7.out.block ge gl hgn)).trans f17; simp only [gA, gZ, gC] at e17; obtain ⟨A7, c7_, rfl⟩ := own_slice' hown; clear hown hfr hat) | fail)) | fail
 all_goals
  obtain ⟨v7, hv7⟩ := lx (Value.slice A7 (x.es.length + 1) c7_)
  rw [← hv7] at O7 HAT ⊢
  clear hv7
  have X8 : Hid (EndS (ext o w.heap.size v7 (k + 7)) k B (w7.setCell ⟨ge, 17, none⟩ v7) ge { x with vE := v7, es := x.es ++ [ev], m0 := x.m0 } ∧ Stp (fun c => c = k ∨ c = k + 7) o (ext o w.heap.size v7 (k + 7)) w (w7.setCell ⟨ge, 17, none⟩ v7)) := hid (by
   obtain ⟨p1, p2⟩ := OutG.push liesE RW.out R2.out R3.out OWE.out (by omega) HE.out F7.out O7.out HAT.out
   have f8 := (Frm.refl (· = ge) w7).setg (i := 17) v7
   have hne : ∀ j, v7.ownBlock = some j → j ≠ ge := fun j hj e => by
    have h1 := (p2 j hj).1
    rw [e, ext_agr o _ v7 _ ge gl] at h1
    omega
   have s8 : Stp (fun c => c = k ∨ c = k + 7) o (ext o w.heap.size v7 (k + 7)) w (w7.setCell ⟨ge, 17, none⟩ v7) := ⟨(F7.out.mono (fun j hj => .inr (OWE.out j hj).1)).setCell (.inl (.inl ogk)) v7, ext_agr _ _ _ _⟩
   refine ⟨H.out.put7 s8 (by simpa using (H.out.blk.frm F7.out hgn).set 17 v7) ⟨OutG.frm liesE p1 f8 (fun j hj e => ?_) hne, fun j hj => ⟨(p2 j hj).1, Nat.lt_of_lt_of_le (p2 j hj).2 f8.size⟩⟩, s8⟩
   have h1 : ext o w.heap.size v7 (k + 7) j = 0 := hj
   rw [e, ext_agr o _ v7 _ ge gl] at h1
   have := H.out.kp
   omega)
  obtain ⟨w8, hw8⟩ := lx (w7.setCell ⟨ge, 17, none⟩ v7)
  rw [← hw8] at X8 ⊢
  clear hw8
  obtain ⟨o8, ho8⟩ := lx (ext o w.heap.size v7 (k + 7))
  rw [← ho8] at X8
  clear ho8 e17 g17 d17 d17b d17c
  have n19 := X8.out.1.blk.cell 19
  have y19 := X8.out.1.blk.free 19
  simp only [gA, gZ, gC] at n19
  obtain ⟨mm, hmm⟩ : ∃ m, IntKind.i64.wrap (x.m0 + 1) = m := ⟨_, rfl⟩
  go_wp2_with fail
  refine wp_region_still_tail (id := 2) 9 (by kernel_rfl) (by kernel_rfl) ?_
  change wpStill _ _ (World.drew _) (fun a' => wpList _ _ _ _ a' (World.drew _)) _ _
  simp only [List.take_succ_cons, List.take_zero, List.drop_succ_cons, List.drop_zero]
  repeat still_step
  refine wpStill_nil ?_
  go_wp2_with fail
  go_end0
  have s9 : Stp (fun c => c = k) o8 o8 w8 (w8.setCell ⟨ge, 19, none⟩ (.int .i64 mm)) := ⟨(Frm.refl _ _).setCell (.inl X8.out.1.og) _, Agr.refl _ _⟩
  refine ⟨rfl, o8, v7, mm, ?_, ?_⟩
  ·have h9 := X8.out.1.put7 (s9.mono (fun c hc => .inl hc)) (vE' := v7) (es' := x.es ++ [ev]) (m := mm) (by simpa using X8.out.1.blk.set 19 (.int .i64 mm)) (X8.out.1.c7.frm s9 (by have := X8.out.1.kp; omega) (by omega))
   exact h9.frm (C := fun _ => False) ⟨(Frm.refl _ _).drew, Agr.refl _ _⟩ (fun h => h) (fun _ h => h.elim)
  ·exact X8.out.2.trans ((s9.mono (fun c hc => .inl hc)).trans ⟨(Frm.refl _ _).drew, Agr.refl _ _⟩)
end

section
theorem sum_set : ∀ (l : List Nat) (i n m : Nat), l[i]? = some n → (l.set i m).sum + n = l.sum + m
 | [], i, n, m, h => by simp at h
 | x :: l, 0, n, m, h => by simp at h; subst h; simp; omega
 | x :: l, i + 1, n, m, h => by
  have := sum_set l i n m (by simpa using h)
  simp only [List.set_cons_succ, List.sum_cons]
  omega
theorem said_set {ps : List PathV} {i : Nat} {q q' : PathV} (h : ps[i]? = some q) : said (ps.set i q') + q.s.toNat = said ps + q'.s.toNat := by
 unfold said
 rw [List.map_set]
 exact sum_set _ i _ _ (by rw [List.getElem?_map, h]; rfl)
theorem ptrs_set {ps : List PathV} {i : Nat} {q q' : PathV} (h : ps[i]? = some q) (hg : q'.gp = q.gp) : ((ps.set i q').map fun p => (.pointer (some ⟨p.gp, 0, none⟩) : Value)) = ps.map fun p => .pointer (some ⟨p.gp, 0, none⟩) := by
 rw [List.map_set, hg]
 refine List.ext_getElem? fun j => ?_
 rw [List.getElem?_set]
 split
 ·rename_i e
  subst e
  split
  ·rw [List.getElem?_map, h]; rfl
  ·rename_i hn
   rw [List.length_map] at hn
   exact absurd (List.getElem?_eq_some_iff.1 h).1 hn
 ·rfl
section
variable {o o' : Nat → Nat} {k B : Nat} {w w' : World} {ge : Nat} {x : EndV}
theorem EndS.put9 (h : EndS o k B w ge x) {i : Nat} {q q' : PathV} (hi : x.ps[i]? = some q) (s : Stp (fun c => c = k + 10 + i) o o' w w') (hg : q'.gp = q.gp) (h9 : C9 o' k B w' i q') : EndS o' k B w' ge { x with ps := x.ps.set i q' } :=
 have kp := h.kp
 have c1' : C1 o' k w' x.vP x.ps := h.c1.frm s (by omega)
 ⟨h.blk.frm s.f (fun e => by have := h.og; omega), (s.ag _ h.blk.lt).trans h.og, h.ge, h.kp, ⟨by show Sl _ _ _ (x.ps.set i q').length _; rw [List.length_set, ptrs_set hi hg]; exact c1'.r, c1'.ow⟩, h.c2.frm s (by omega), h.c3.frm s (by omega), h.c4.frm s (by omega), h.c5.frm s (by omega), h.c6.frm s (by omega), h.c7.frm s (by omega) (by omega), h.c8.frm s (by omega) (by omega), fun j p hj => by
  simp only [List.getElem?_set] at hj
  split at hj
  ·rename_i e
   subst e
   split at hj
   ·injection hj with hj; subst hj; exact h9
   ·cases hj
  ·exact (h.c9 j p hj).frm s (by omega), by show (x.ps.set i q').length ≤ 3; rw [List.length_set]; exact h.np⟩
/-- Its own numbers turned. -/
theorem EndS.putI (h : EndS o k B w ge x) (s : Stp (fun c => c = k) o o' w w') (now limit sent m0 m1 m2 m3 m4 m5 m6 m7 : Int) (hb : Blk w' ge (ecs { x with now := now, limit := limit, sent := sent, m0 := m0, m1 := m1, m2 := m2, m3 := m3, m4 := m4, m5 := m5, m6 := m6, m7 := m7 }) 78) :
  EndS o' k B w' ge { x with now := now, limit := limit, sent := sent, m0 := m0, m1 := m1, m2 := m2, m3 := m3, m4 := m4, m5 := m5, m6 := m6, m7 := m7 } :=
 have kp := h.kp
 ⟨hb, (s.ag _ h.blk.lt).trans h.og, h.ge, h.kp, h.c1.frm s (by omega), h.c2.frm s (by omega), h.c3.frm s (by omega), h.c4.frm s (by omega), h.c5.frm s (by omega), h.c6.frm s (by omega), h.c7.frm s (by omega) (by omega), h.c8.frm s (by omega) (by omega), fun i p hi => (h.c9 i p hi).frm s (by omega), h.np⟩
theorem EndS.drew (h : EndS o k B w ge x) : EndS o k B w.drew ge x := h.below (Below.refl _ _).drew
theorem Stp.drew {C : Nat → Prop} (h : Stp C o o' w w') : Stp C o o' w w'.drew := ⟨h.f.drew, h.ag⟩
end
/-- A packet's cells in a block. -/
def PB (w : World) (g : Nat) (p : Pk) (v : Value) : Prop := w.cell? ⟨g, 0, none⟩ = some (.int .i64 p.kind) ∧ w.cell? ⟨g, 1, none⟩ = some (.int .i64 p.path) ∧ w.cell? ⟨g, 2, none⟩ = some (.int .i64 p.number) ∧ w.cell? ⟨g, 3, none⟩ = some (.int .i64 p.of_) ∧ w.cell? ⟨g, 4, none⟩ = some (.int .i64 p.from_) ∧ w.cell? ⟨g, 5, none⟩ = some v ∧ w.cell? ⟨g, 6, none⟩ = some (.bool p.fin) ∧
 w.cell? ⟨g, 7, none⟩ = some (.int .i64 p.seen) ∧ w.cell? ⟨g, 8, none⟩ = some (.int .i64 p.limit)
theorem PB.of {w : World} {g : Nat} {p : Pk} {v : Value} (h : Blk w g (pcells p v).toArray 27) : PB w g p v := ⟨h.cell 0, h.cell 1, h.cell 2, h.cell 3, h.cell 4, h.cell 5, h.cell 6, h.cell 7, h.cell 8⟩
/-- An end's owners. -/
def EC (k : Nat) : Nat → Prop := fun c => k ≤ c ∧ c < k + 100
/-- What is new is scratch. -/
def scr (o : Nat → Nat) (n c : Nat) : Nat → Nat := fun j => if j < n then o j else c
theorem scr_agr (o : Nat → Nat) (n c : Nat) : Agr n o (scr o n c) := fun j hj => by unfold scr; rw [if_pos hj]
theorem scr_new {o : Nat → Nat} {n c j : Nat} (h : n ≤ j) : scr o n c j = c := by unfold scr; rw [if_neg (by omega)]
def sentE (p : Pk) (n : Int) : Ev := ⟨5, 0, [], { p with number := n }⟩
def SayR (o : Nat → Nat) (k B : Nat) (w : World) (ge : Nat) (x : EndV) (p : Pk) (i : Nat) (q : PathV) (e : Ending) (w' : World) : Prop :=
 (65535 < q.s ∧ e = .returned (.tuple #[.int .i64 0, .bool false]) ∧ Below w.heap.size w w') ∨
 (q.s ≤ 65535 ∧ e = .returned (.tuple #[.int .i64 q.s, .bool true]) ∧ ∃ (o' : Nat → Nat) (vE vO : Value) (m0 m1 m2 : Int), EndS o' k B w' ge { x with ps := x.ps.set i { q with s := q.s + 1 }, vE := vE, es := x.es ++ [sentE p q.s], vO := vO, outs := x.outs ++ [{ p with number := q.s }], m0 := m0, m1 := m1, m2 := m2 } ∧
  Stp (EC k) o o' w w')
set_option maxHeartbeats 16000000 in
set_option maxRecDepth 100000 in
theorem say_any (o : Nat → Nat) (k B : Nat) (w : World) (ge : Nat) (x : EndV) (p : Pk) (v : Value) (i : Nat) (q : PathV) (h : EndS o k B w ge x) (hB : B ≤ w.heap.size) (hv : BV w (frozen o) v p.data) (hi : x.ps[i]? = some q) (hp : p.path = (i : Int)) (hl : x.es.length ≤ 100000000) (hl2 : x.outs.length ≤ 100000000) :
  Calls Tryz.prog 65 #[.pointer (some ⟨ge, 0, none⟩), pagg p v] w fun e w' => SayR o k B w ge x p i q e w' := by
 have H := hid h
 have HV := hid hv
 have HI := hid Tryz.info27
 have HQ := hid hi
 have gl := h.blk.lt
 obtain ⟨Ad, cd, rfl, _, _⟩ := hv.len
 have hil := (List.getElem?_eq_some_iff.1 hi).1
 have np := h.np
 obtain ⟨w0, hw0⟩ := lx (w.alloc (.cells (pcells p (.slice Ad p.data.length cd)).toArray 27))
 obtain ⟨gb, hgb⟩ := lx (w.heap.size)
 have B0 : Hid (Below w.heap.size w w0) := hid (by rw [hw0]; exact ba)
 have BX : Hid (Blk w0 gb (pcells p (.slice Ad p.data.length cd)).toArray 27) := hid (by rw [hw0, hgb]; exact Blk.new _ _ _)
 have hw0' : w.alloc (.cells #[.int .i64 p.kind, .int .i64 p.path, .int .i64 p.number, .int .i64 p.of_, .int .i64 p.from_, .slice Ad p.data.length cd, .bool p.fin, .int .i64 p.seen, .int .i64 p.limit] 27) = w0 := hw0.symm
 have hS0 : Stp (EC k) o (scr o w.heap.size (k + 99)) w w0 := ⟨Frm.of_below B0.out, scr_agr _ _ _⟩
 have S0 := hid hS0
 obtain ⟨o0, ho0⟩ := lx (scr o w.heap.size (k + 99))
 have ogb : o0 gb = k + 99 := by rw [ho0, hgb]; exact scr_new (Nat.le_refl _)
 rw [← ho0] at S0
 have X0 : Hid (EndS o0 k B w0 ge x) := hid (h.frm (C := fun _ => False) ⟨Frm.of_below B0.out, S0.out.ag⟩ (fun h => h) (fun _ h => h.elim))
 have V0 : Hid (BV w0 (frozen o0) (.slice Ad p.data.length cd) p.data) := hid ((hv.mono (S' := frozen o0) (fun j hj hl => frozen_ag S0.out.ag j hj hl)).below B0.out)
 clear hS0 ho0
 have C9q := hid (X0.out.c9 i q hi)
 obtain ⟨AP, cP, hvP, hcP, _⟩ := h.c1.r.len
 obtain ⟨Aq, cq, hvq⟩ := own_slice' C9q.out.r.l
 obtain ⟨adP, hAP, dP⟩ := Sl.at_ (hvP ▸ X0.out.c1.r) hil
 have dP : w0.cell? (adP.add i) = some (.pointer (some ⟨q.gp, 0, none⟩)) := by rw [dP, List.getD_eq_getElem?_getD, List.getElem?_map, hi]; rfl
 have c9 := X0.out.blk.cell 9
 simp only [gA, gZ, gC] at c9
 rw [hvP, hAP] at c9
 have i0 : (0 : Int) ≤ (i : Int) := by omega
 have i1 : (i : Int) < (x.ps.length : Int) := by omega
 -- where things lie
 have ogk := X0.out.og
 have okq : o0 q.gp = k + 10 + i := C9q.out.ow _ (.inl rfl)
 have bP : ∀ j, (adP.add i).block = j → o0 j = k + 1 ∧ j < w0.heap.size := fun j hj => X0.out.c1.ow j (by rw [hvP, hAP]; show some adP.block = some j; rw [← hj]; unfold Addr.add; split <;> rfl)
 have KE : Hid (∀ W, Frm (· = q.gp) w0 W → W.cell? ⟨ge, 9, none⟩ = some (.slice (some adP) x.ps.length cP) ∧ W.cell? (adP.add i) = some (.pointer (some ⟨q.gp, 0, none⟩)) ∧ W.cell? ⟨gb, 1, none⟩ = some (.int .i64 (i : Int))) := hid (fun W hW => by
  have g1 : ge ≠ q.gp := fun e => by rw [e] at ogk; omega
  have g2 : (adP.add i).block ≠ q.gp := fun e => by have := (bP _ e).1; omega
  have g3 : gb ≠ q.gp := fun e => by
   have h5 := (h.c9 i q hi).r.blk.lt
   omega
  refine ⟨?_, ?_, ?_⟩
  ·rw [← c9]; exact World.cell?_of_block (hW.block ge X0.out.blk.lt g1)
  ·rw [← dP]; exact World.cell?_of_block (hW.block _ (World.block_lt_of_cell? w0 _ dP) g2)
  ·rw [← hp]; exact ((BX.out.frm hW g3).cell 1))
 have HP := hid hvq
 have HPP := hid hp
 clear hp
 have HGB := hid hgb
 clear h hv hw0 hi c9 dP hvP hAP hvq
 go_enter Tryz.func65, Tryz.ntmps65
 go_wp2_with fail
 rw [← hgb]
 clear hgb hw0'
 refine wp_region_held_drew (S := fun w' => w'.cell? ⟨ge, 9, none⟩ = some (.slice (some adP) x.ps.length cP) ∧ w'.cell? (adP.add i) = some (.pointer (some ⟨q.gp, 0, none⟩)) ∧ w'.cell? ⟨gb, 1, none⟩ = some (.int .i64 (i : Int))) (by kernel_rfl) (KE.out _ (Frm.refl _ _).drew) (fun hHeld => ?_)
 obtain ⟨wd, hwd⟩ := lx (w0.drew)
 have XD : Hid (EndS o0 k B wd ge x) := hid (by rw [hwd]; exact X0.out.drew)
 have FD : Hid (Frm (· = q.gp) w0 wd) := hid (by rw [hwd]; exact (Frm.refl _ _).drew)
 have BD : Hid (Below w.heap.size w wd) := hid (by rw [hwd]; exact B0.out.drew)
 rw [← hwd] at hHeld ⊢
 clear hwd
 refine tk 0 (oi := ⟨some 9, _, _, _, _, _⟩) rfl ?_
 refine tk 1 (oi := ⟨some 10, _, _, _, _, _⟩) rfl ?_
 refine tk 2 (oi := ⟨some 11, _, _, _, _, _⟩) rfl ?_
 refine tk 3 (oi := ⟨some 12, _, _, _, _, _⟩) rfl ?_
 refine tk 4 (oi := ⟨some 13, _, _, _, _, _⟩) rfl ?_
 refine tk 5 (oi := ⟨some 14, _, _, _, _, _⟩) rfl ?_
 refine tk 6 (oi := ⟨some 15, _, _, _, _, _⟩) rfl ?_
 refine tk 7 (oi := ⟨some 16, _, _, _, _, _⟩) rfl ?_
 refine rD 8 (o := ⟨some 17, _, _, _, _, _⟩) rfl (fun K hK => ?_)
 go_simp
 have CD := hid (XD.out.c9 i q HQ.out)
 refine (number_any wd q.gp q.u q.j q.b q.s q.gG q.gW Aq q.l.length cq (by have := CD.out.r.blk; rw [HP.out] at this; exact this) CD.out.r.s0).mono ?_
 intro e w2 hn
 obtain ⟨n1, b1, rfl, hcase⟩ : ∃ (n : Int) (b : Bool), e = .returned (.tuple #[.int .i64 n, .bool b]) ∧ ((b = false ∧ n = 0 ∧ 65535 < q.s ∧ w2 = wd) ∨ (b = true ∧ n = q.s ∧ q.s ≤ 65535 ∧ w2 = wd.setCell ⟨q.gp, 3, none⟩ (.int .i64 (q.s + 1)))) := by
  rcases hn with ⟨h1, rfl, h3⟩ | ⟨h1, rfl, h3⟩
  ·exact ⟨_, _, rfl, .inl ⟨rfl, rfl, h1, h3⟩⟩
  ·exact ⟨_, _, rfl, .inr ⟨rfl, rfl, h1, h3⟩⟩
 have F2 : Hid (Frm (· = q.gp) wd w2) := hid (by
  rcases hcase with ⟨_, _, _, rfl⟩ | ⟨_, _, _, rfl⟩
  ·exact Frm.refl _ _
  ·exact (Frm.refl _ _).setg _)
 have HC := hid hcase
 clear hn hcase
 refine Ko hK (KE.out _ (FD.out.trans F2.out)) (fun hHeld => ?_)
 clear hK K
 refine tk 9 (oi := ⟨some 8, _, _, _, _, _⟩) rfl ?_
 refine tk 10 (oi := ⟨some 18, _, _, _, _, _⟩) rfl ?_
 refine tk 11 (oi := ⟨some 19, _, _, _, _, _⟩) rfl ?_
 refine tk 12 (oi := ⟨some 6, _, _, _, _, _⟩) rfl ?_
 refine tk 13 (oi := ⟨some 7, _, _, _, _, _⟩) rfl ?_
 refine dn ?_
 clear hHeld
 rcases HC.out with ⟨rfl, rfl, hs, rfl⟩ | ⟨rfl, rfl, hs, hw2⟩
 ·go_wp2_with fail
  refine bodyPost_ret (results_two rfl _ _ _) rfl ?_
  exact .inl ⟨hs, rfl, BD.out⟩
 ·have kp := XD.out.kp
  have hgq : gb ≠ q.gp := fun e => by rw [e] at ogb; omega
  have hgg : gb ≠ ge := fun e => by rw [e] at ogb; omega
  have S2 : Stp (fun c => c = k + 10 + i) o0 o0 wd w2 := ⟨F2.out.mono (fun j hj => hj ▸ okq), Agr.refl _ _⟩
  have X2 : Hid (EndS o0 k B w2 ge { x with ps := x.ps.set i { q with s := q.s + 1 } }) := hid (XD.out.put9 HQ.out S2 rfl (by
   have hp9 : PathAt B w2 q.gp q.gG q.gW q.u q.j q.b (q.s + 1) q.v q.l := by rw [hw2]; exact CD.out.r.setS ⟨by have := CD.out.r.s0; omega, by omega⟩
   exact ⟨hp9, fun j hj => CD.out.ow j hj, by have h1 := CD.out.l; have h2 := CD.out.r.s0; show q.l.length ≤ (q.s + 1).toNat; omega⟩))
  have T2 : Hid (Stp (EC k) o o0 w w2) := hid (S0.out.trans ⟨((Frm.of_below (S := fun _ => False) (show Below w0.heap.size w0 w0 from Below.refl _ _)).mono (fun j h => h.elim)).trans ((FD.out.trans F2.out).mono (fun j hj => by rw [hj]; show EC k (o0 q.gp); rw [okq]; exact ⟨by omega, by omega⟩)), Agr.refl _ _⟩)
  have BX2 := hid ((BX.out.frm FD.out hgq).frm F2.out hgq)
  have V2 : Hid (BV w2 (frozen o0) (.slice Ad p.data.length cd) p.data) := hid (V0.out.frm (FD.out.trans F2.out) (fun j hj e => by have h1 : o0 j = 0 := hj; rw [e] at h1; omega))
  clear FD F2 hw2 S2
  have y2 := BX2.out.free 2
  obtain ⟨k0, k1, k2, k3, k4, k5, k6, k7, k8⟩ := PB.of BX2.out
  go_wp2_with fail
  obtain ⟨w3, hw3⟩ := lx (w2.setCell ⟨gb, 2, none⟩ (.int .i64 q.s))
  rw [← hw3]
  have F3 : Frm (· = gb) w2 w3 := by rw [hw3]; exact (Frm.refl _ _).setg _
  have S3 : Stp (fun c => c = k + 99) o0 o0 w2 w3 := ⟨F3.mono (fun j hj => hj ▸ ogb), Agr.refl _ _⟩
  have X3 : Hid (EndS o0 k B w3 ge { x with ps := x.ps.set i { q with s := q.s + 1 } }) := hid (X2.out.frm S3 (by omega) (fun c hc => by omega))
  have T3 : Hid (Stp (EC k) o o0 w w3) := hid (T2.out.trans (S3.mono (fun c hc => by rw [hc]; exact ⟨by omega, by omega⟩)))
  have BX3 : Hid (Blk w3 gb (pcells { p with number := q.s } (.slice Ad p.data.length cd)).toArray 27) := hid (by rw [hw3]; have := BX2.out.set 2 (.int .i64 q.s); simpa [pcells] using this)
  have V3 : Hid (BV w3 (frozen o0) (.slice Ad p.data.length cd) p.data) := hid (V2.out.frm F3 (fun j hj e => by have h1 : o0 j = 0 := hj; rw [e, ogb] at h1; omega))
  clear hw3 F3 S3 k0 k1 k2 k3 k4 k5 k6 k7 k8 y2
  obtain ⟨AO, cO, hvO⟩ := X3.out.c8.r.form
  dsimp only at hvO
  have e18 := X3.out.blk.cell 18
  have g18 := X3.out.blk.free 18
  simp only [gA, gZ, gC] at e18
  rw [hvO] at e18
  have HVO := hid hvO
  have d18b := fun o => cell_in_alloc' e18 o
  have d18c := fun o => cell_in_alloc' (show w3.drew.cell? ⟨ge, 18, none⟩ = _ from e18) o
  obtain ⟨k0, k1, k2, k3, k4, k5, k6, k7, k8⟩ := PB.of BX3.out
  dsimp only at k0 k1 k2 k3 k4 k5 k6 k7 k8
  obtain ⟨vs, r1, r2, r3, r4⟩ := X3.out.c8.r
  dsimp only at r1 r2 r3
  have RW : Hid (w3.ownsRow B 27 9 (.slice AO x.outs.length cO) x.outs.length (rowsG pcells x.outs vs)) := hid (hvO ▸ r1)
  have R2 := hid r2
  have R3 := hid r3
  have hone : Hid (∀ u ∈ pcells { p with number := q.s } (.slice Ad p.data.length cd), u.oneCell' = true) := hid (by intro u hu; simp [pcells] at hu; rcases hu with rfl | rfl | rfl | rfl | rfl | rfl | rfl | rfl | rfl <;> rfl)
  have sB : B ≤ w3.heap.size := Nat.le_trans hB T3.out.size
  have OWE : Hid (Ow o0 w3 (k + 8) (.slice AO x.outs.length cO)) := hid (hvO ▸ X3.out.c8.ow)
  have hgn : ¬ (Value.slice AO x.outs.length cO).ownBlock = some ge := fun e => by have := (OWE.out ge e).1; omega
  have hgbn : ¬ (Value.slice AO x.outs.length cO).ownBlock = some gb := fun e => by have := (OWE.out gb e).1; omega
  have gl3 := X3.out.blk.lt
  clear r1 r2 r3 r4 hvO
  first | (go_region_law (first | (refine step_app (v := .slice AO x.outs.length cO) B (by rfl) _ _ 75 27 _ 9 88 (by rfl) Tryz.underlying75 HI.out rfl (by omega) (by omega) (by rfl) (by rfl) ((show w3.drew.ownsRow B 27 9 _ _ _ from RW.out).alloc _) (Sl.boxk w3.drew 27 9 (pcells { p with number := q.s } (.slice Ad p.data.length cd)) _ (by simp) rfl hone.out) (by omega) (Nat.le_trans sB (by simp)) ?_; intro v7 w7 hown hfr hat; have F7 : Hid (Frm (fun j => (Value.slice AO x.outs.length cO).ownBlock = some j) w3 w7) := hid ((((Frm.refl _ w3).drew).alloc _).trans hfr); have O7 := hid hown; have HAT : Hid (v7.ownBlock = (Value.slice AO x.outs.length cO).ownBlock ∨ ∀ j, v7.ownBlock = some j → w3.heap.size ≤ j) := hid (hat.imp id (fun e j hj => by rw [e] at hj; injection hj with hj; rw [← hj]; simp)); have e18_ := (show w7.cell? ⟨ge, 18, none⟩ = w3.cell? ⟨ge, 18, none⟩ from World.cell?_of_block (F7.out.block ge gl3 hgn)).trans e18; have g18_ := (show w7.frozen? ⟨ge, 18, none⟩ = w3.frozen? ⟨ge, 18, none⟩ from World.frozen?_of_block (F7.out.block ge gl3 hgn)).trans g18; obtain ⟨A7, c7_, rfl⟩ := own_slice' hown; clear hown hfr hat) | fail)) | fail
  all_goals
   obtain ⟨v7, hv7⟩ := lx (Value.slice A7 (x.outs.length + 1) c7_)
   rw [← hv7] at O7 HAT ⊢
   clear hv7
   have X8 : Hid (EndS (ext o0 w3.heap.size v7 (k + 8)) k B (w7.setCell ⟨ge, 18, none⟩ v7) ge { x with ps := x.ps.set i { q with s := q.s + 1 }, vO := v7, outs := x.outs ++ [{ p with number := q.s }] } ∧ Stp (fun c => c = k ∨ c = k + 8) o0 (ext o0 w3.heap.size v7 (k + 8)) w3 (w7.setCell ⟨ge, 18, none⟩ v7)) := hid (by
    obtain ⟨p1, p2⟩ := OutG.push liesP RW.out R2.out R3.out OWE.out (by omega) (a := { p with number := q.s }) (b := .slice Ad p.data.length cd) V3.out F7.out O7.out HAT.out
    have f8 := (Frm.refl (· = ge) w7).setg (i := 18) v7
    have ogk := X3.out.og
    have hne : ∀ j, v7.ownBlock = some j → j ≠ ge := fun j hj e => by
     have h1 := (p2 j hj).1
     rw [e, ext_agr o0 _ v7 _ ge gl3] at h1
     omega
    have s8 : Stp (fun c => c = k ∨ c = k + 8) o0 (ext o0 w3.heap.size v7 (k + 8)) w3 (w7.setCell ⟨ge, 18, none⟩ v7) := ⟨(F7.out.mono (fun j hj => .inr (OWE.out j hj).1)).setCell (.inl (.inl ogk)) v7, ext_agr _ _ _ _⟩
    refine ⟨X3.out.put8 s8 (by simpa using (X3.out.blk.frm F7.out hgn).set 18 v7) ⟨OutG.frm liesP p1 f8 (fun j hj e => ?_) hne, fun j hj => ⟨(p2 j hj).1, Nat.lt_of_lt_of_le (p2 j hj).2 f8.size⟩⟩, s8⟩
    have h1 : ext o0 w3.heap.size v7 (k + 8) j = 0 := hj
    rw [e, ext_agr o0 _ v7 _ ge gl3] at h1
    omega)
   obtain ⟨w8, hw8⟩ := lx (w7.setCell ⟨ge, 18, none⟩ v7)
   have BX8 : Hid (Blk w8 gb (pcells { p with number := q.s } (.slice Ad p.data.length cd)).toArray 27) := hid (by rw [hw8]; exact (BX3.out.frm F7.out hgbn).far (by simpa using hgg) _)
   rw [← hw8] at X8 ⊢
   obtain ⟨o8, ho8⟩ := lx (ext o0 w3.heap.size v7 (k + 8))
   rw [← ho8] at X8
   have ogb8 : o8 gb = k + 99 := by rw [ho8, ext_agr o0 _ v7 _ gb BX3.out.lt]; exact ogb
   have V8 : Hid (BV w8 (frozen o8) (.slice Ad p.data.length cd) p.data) := hid ((V3.out.mono (S' := fun j => frozen o0 j ∧ j < w3.heap.size) (fun j hj hl => ⟨hj, hl⟩)).frm X8.out.2.f (fun j hj e => by have h1 : o0 j = 0 := hj.1; omega) |>.mono (fun j hj _ => frozen_ag X8.out.2.ag j hj.1 hj.2))
   have T8 : Hid (Stp (EC k) o o8 w w8) := hid (T3.out.trans (X8.out.2.mono (fun c hc => by rcases hc with rfl | rfl; exact ⟨by omega, by omega⟩; exact ⟨by omega, by omega⟩)))
   clear hw8 ho8 e18_ g18_ e18 d18b d18c g18 k0 k1 k2 k3 k4 k5 k6 k7 k8
   obtain ⟨k0, k1, k2, k3, k4, k5, k6, k7, k8⟩ := PB.of BX8.out
   dsimp only at k0 k1 k2 k3 k4 k5 k6 k7 k8
   go_wp2_with fail
   refine (event_any o8 k B w8 ge _ (sentE p q.s) (.slice none 0 0) (.slice Ad p.data.length cd) X8.out.1 (Nat.le_trans hB T8.out.size) ⟨BV.nil _ _, V8.out⟩ hl).mono ?_
   rintro e w9 ⟨rfl, o9, vE, m0, hx9, hs9⟩
   have X9 := hid hx9
   have T9 : Hid (Stp (EC k) o o9 w w9) := hid (T8.out.trans (hs9.mono (fun c hc => by rcases hc with rfl | rfl; exact ⟨by omega, by omega⟩; exact ⟨by omega, by omega⟩)))
   have BX9 := hid (BX8.out.frm hs9.f (by omega))
   clear hx9 hs9 k0 k1 k2 k3 k4 k5 k6 k7 k8
   have n20 := X9.out.blk.cell 20
   have y20 := X9.out.blk.free 20
   simp only [gA, gZ, gC] at n20
   obtain ⟨mm, hmm⟩ : ∃ m, IntKind.i64.wrap (x.m1 + 1) = m := ⟨_, rfl⟩
   go_wp2_with fail
   refine wp_region_still_tail (id := 7) 9 (by kernel_rfl) (by kernel_rfl) ?_
   change wpStill _ _ (World.drew _) (fun a' => wpList _ _ _ _ a' (World.drew _)) _ _
   simp only [List.take_succ_cons, List.take_zero, List.drop_succ_cons, List.drop_zero]
   repeat still_step
   refine wpStill_nil ?_
   go_wp2_with fail
   obtain ⟨wa, hwa⟩ := lx ((w9.setCell ⟨ge, 20, none⟩ (.int .i64 mm)).drew)
   have SA : Stp (fun c => c = k) o9 o9 w9 wa := by rw [hwa]; exact ⟨((Frm.refl _ _).setCell (.inl X9.out.og) _).drew, Agr.refl _ _⟩
   have XA : Hid (EndS o9 k B wa ge { x with ps := x.ps.set i { q with s := q.s + 1 }, vO := v7, outs := x.outs ++ [{ p with number := q.s }], vE := vE, es := x.es ++ [sentE p q.s], m0 := m0, m1 := mm }) := hid (X9.out.putI SA x.now x.limit x.sent m0 mm x.m2 x.m3 x.m4 x.m5 x.m6 x.m7 (by rw [hwa]; exact Blk.drew (by simpa using X9.out.blk.set 20 (.int .i64 mm))))
   have TA : Hid (Stp (EC k) o o9 w wa) := hid (T9.out.trans (SA.mono (fun c hc => by rw [hc]; exact ⟨by omega, by omega⟩)))
   have BXA := hid (BX9.out.frm (show Frm (· = ge) w9 wa by rw [hwa]; exact ((Frm.refl _ _).setg _).drew) hgg)
   rw [← hwa]
   clear hwa SA n20 y20 hmm
   have n21 := XA.out.blk.cell 21
   have y21 := XA.out.blk.free 21
   have b5 := BXA.out.cell 5
   simp only [gA, gZ, gC, pcells] at n21 b5
   obtain ⟨m2, hm2⟩ : ∃ m, IntKind.i64.wrap (x.m2 + (p.data.length : Int)) = m := ⟨_, rfl⟩
   refine wp_region_still_tail (id := 8) 12 (by kernel_rfl) (by kernel_rfl) ?_
   change wpStill _ _ (World.drew _) (fun a' => wpList _ _ _ _ a' (World.drew _)) _ _
   simp only [List.take_succ_cons, List.take_zero, List.drop_succ_cons, List.drop_zero]
   repeat still_step
   refine wpStill_nil ?_
   go_wp2_with fail
   refine bodyPost_ret (results_two rfl _ _ _) rfl ?_
   have SB : Stp (fun c => c = k) o9 o9 wa (wa.setCell ⟨ge, 21, none⟩ (.int .i64 m2)).drew := ⟨((Frm.refl _ _).setCell (.inl XA.out.og) _).drew, Agr.refl _ _⟩
   exact .inr ⟨hs, rfl, o9, vE, v7, m0, mm, m2, XA.out.putI SB x.now x.limit x.sent m0 mm m2 x.m3 x.m4 x.m5 x.m6 x.m7 (Blk.drew (by simpa using XA.out.blk.set 21 (.int .i64 m2))), TA.out.trans (SB.mono (fun c hc => by rw [hc]; exact ⟨by omega, by omega⟩))⟩
end
end Go.Proofs.YtdneakejlbabeaaGreat
