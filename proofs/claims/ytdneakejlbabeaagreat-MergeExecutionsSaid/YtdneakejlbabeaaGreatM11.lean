/- Parts of the walk: Ep, Ka, Kb, Jb. -/
import Derived.Test.YtdneakejlbabeaaGreatM10
import Derived.Test.YtdneakejlbabeaaGreatM06
import Derived.Test.YtdneakejlbabeaaGreatM08
import Derived.Deep.RegionLaw
import Derived.Deep.RegionHeld3
namespace Go.Proofs.YtdneakejlbabeaaGreat
open Go.RowKit
set_option linter.unusedVariables false
set_option linter.unusedSimpArgs false
attribute [local go_sem] run_max2' run_min2' run_max_ run_min_

theorem plainL_len {p : Pk} (h : RightP p p.data.length) : (plainL p).length ≤ 1000 := by
  unfold plainL
  have l1 := putN_len p.path
  have l2 := putN_len p.number
  have l3 := putN_len p.of_
  have l4 := putN_len p.from_
  have l5 := putN_len p.data.length
  have l6 := putN_len p.seen
  have l7 := putN_len p.limit
  simp only [List.length_append, List.length_cons, List.length_nil]
  split
  · omega
  · split
    · rename_i h3
      have := h.data1 h3
      simp only [List.length_append, List.length_cons, List.length_nil]
      omega
    · split
      · simp only [List.length_append]
        omega
      · simp
        omega
def PackR (w : World) (p : Pk) (e : Ending) (w' : World) : Prop := ∃ (v' : Value) (q : Bool) (b : List Int), e = .returned (.tuple #[v', .bool q]) ∧ BO w.heap.size w' v' b ∧ (q = true → RightP p p.data.length ∧ b = sealL (plainL p)) ∧ Below w.heap.size w w'
set_option maxHeartbeats 4000000 in
set_option maxRecDepth 100000 in
theorem pack_any (w : World) (p : Pk) (S : Nat → Prop) (v : Value) (h : BV w S v p.data) (hl : p.data.length ≤ 1000000) :
    Calls Tryz.prog 81 #[pagg p v] w fun e w' => PackR w p e w' := by
  have H := Lib.hid h
  clear h
  obtain ⟨w0, hw0⟩ : ∃ W, W = w.alloc (.cells #[.int .i64 p.kind, .int .i64 p.path, .int .i64 p.number, .int .i64 p.of_, .int .i64 p.from_, v, .bool p.fin, .int .i64 p.seen, .int .i64 p.limit] 27) := ⟨_, rfl⟩
  obtain ⟨gp, hgp⟩ : ∃ h, h = w.heap.size := ⟨_, rfl⟩
  have BW : Hid (Below w.heap.size w w0) := Lib.hid (by rw [hw0]; exact (Below.refl _ _).alloc (Nat.le_refl _) _)
  go_enter Tryz.func81, Tryz.ntmps81
  go_wp2_with fail
  rw [← hw0]
  refine (plain_any w0 p S v (H.out.below BW.out) hl).mono ?_
  rintro e w1 ⟨v1, q, b, rfl, ho, hq, hb⟩
  have B1 := Lib.hid (Below.on' BW.out (Nat.le_refl _) hb)
  have O1 := Lib.hid ho
  have Q1 := Lib.hid hq
  have s0 := BW.out.size
  clear ho hq hb hw0 hgp
  cases q
  · go_wp2_with fail
    refine bodyPost_ret (results_two rfl _ _ _) rfl ?_
    exact ⟨_, _, _, rfl, BO.nil _ _, (fun h => by cases h), B1.out⟩
  · obtain ⟨hr, rfl⟩ := Q1.out rfl
    have hlen := plainL_len hr
    have HR := Lib.hid hr
    clear hr
    go_wp2_with fail
    refine (seal_any w1 _ v1 _ O1.out.bv (by omega)).mono ?_
    rintro e w2 ⟨v2, rfl, ho2, hb2⟩
    have O2 := Lib.hid ho2
    have B2 := Lib.hid (Below.on' B1.out (Nat.le_refl _) hb2)
    clear ho2 hb2
    go_wp2_with fail
    refine bodyPost_ret (results_two rfl _ _ _) rfl ?_
    exact ⟨_, _, _, rfl, ⟨own_base O2.out.1 B1.out.size, O2.out.2⟩, (fun _ => ⟨HR.out, rfl⟩), B2.out⟩
/-- A reader, a packet being taken, the result's cells. -/
structure TP (w W : World) (g gp gr : Nat) (v : Value) (l : List Int) (a : Nat) (b : Bool) (cs : Array Value) : Prop where
  rd : RdC W g v a b
  bv : BV W (fun j => j < w.heap.size ∧ j ≠ g) v l
  pb : Blk W gp cs 27
  rc : Blk W gr #[.int .i64 0, .int .i64 0, .int .i64 0, .int .i64 0, .int .i64 0, .slice none 0 0, .bool false, .int .i64 0, .int .i64 0] 27
  f : Frm (· = g) w W
  le : a ≤ l.length
  n : g < w.heap.size ∧ w.heap.size ≤ gp ∧ w.heap.size ≤ gr ∧ gp ≠ gr
theorem TP.call {w W W' : World} {g gp gr : Nat} {v : Value} {l : List Int} {a a' : Nat} {b b' : Bool} {cs : Array Value} (h : TP w W g gp gr v l a b cs) (hr : RdC W' g v a' b') (ha : a' ≤ l.length) (f : Frm (· = g) W W') : TP w W' g gp gr v l a' b' cs := by
  obtain ⟨n1, n2, n3, n4⟩ := h.n
  exact ⟨hr, h.bv.frm f (fun j hj e => hj.2 e), h.pb.frm f (by omega), h.rc.frm f (by omega), h.f.trans f, ha, h.n⟩
theorem TP.put {w W : World} {g gp gr : Nat} {v : Value} {l : List Int} {a : Nat} {b : Bool} {cs : Array Value} (h : TP w W g gp gr v l a b cs) (k : Nat) (u : Value) : TP w (W.setCell ⟨gp, k, none⟩ u) g gp gr v l a b (cs.setIfInBounds k u) := by
  obtain ⟨n1, n2, n3, n4⟩ := h.n
  exact ⟨h.rd.far (by simp only [ne_eq]; omega) u, h.bv.frm ((Frm.refl (· = gp) W).setg (i := k) u) (fun j hj e => by have := hj.1; omega), h.pb.set k u, h.rc.far (by simp only [ne_eq]; omega) u, h.f.setNew n2 u, h.le, h.n⟩
end Go.Proofs.YtdneakejlbabeaaGreat

namespace Go.Proofs.YtdneakejlbabeaaGreat
open Go.RowKit
set_option linter.unusedVariables false
set_option linter.unusedSimpArgs false

/-- Is there such a place? -/
def thereB (n0 n1 : Nat) (to at_ : Int) : Bool := decide ((to = 0 ∧ 0 ≤ at_ ∧ at_ < n0) ∨ (to = 1 ∧ 0 ≤ at_ ∧ at_ < n1))
set_option maxHeartbeats 4000000 in
set_option maxRecDepth 100000 in
theorem there_any (w : World) (gd kk : Nat) (A0 A1 : Option Addr) (n0 n1 d0 d1 : Nat) (to at_ : Int) (c0 : w.cell? ⟨gd, kk, none⟩ = some (.slice A0 n0 d0)) (c1 : w.cell? ⟨gd, kk + 1, none⟩ = some (.slice A1 n1 d1)) :
    Calls Tryz.prog 79 #[.pointer (some ⟨gd, kk, none⟩), .int .i64 to, .int .i64 at_] w fun e w' => e = .returned (.bool (thereB n0 n1 to at_)) ∧ w = w' := by
  unfold thereB
  by_cases h0 : to = 0
  · subst h0
    rcases Int.lt_or_le at_ 0 with a0 | a0
    · rw [decide_eq_false (by omega)]
      go_enter Tryz.func79, Tryz.ntmps79
      go_wp2_with fail
      go_ret
      exact ⟨rfl, rfl⟩
    · rcases Int.lt_or_le at_ (n0 : Int) with a1 | a1
      · rw [decide_eq_true (.inl ⟨rfl, a0, a1⟩)]
        go_enter Tryz.func79, Tryz.ntmps79
        go_wp2_with fail
        go_ret
        exact ⟨rfl, rfl⟩
      · rw [decide_eq_false (by omega)]
        have hd : decide (at_ < (n0 : Int)) = false := decide_eq_false (by omega)
        go_enter Tryz.func79, Tryz.ntmps79
        go_wp2_with fail
        go_ret
        exact ⟨by first | rfl | rw [hd], rfl⟩
  · by_cases h1 : to = 1
    · subst h1
      rcases Int.lt_or_le at_ 0 with a0 | a0
      · rw [decide_eq_false (by omega)]
        go_enter Tryz.func79, Tryz.ntmps79
        go_wp2_with fail
        go_ret
        exact ⟨rfl, rfl⟩
      · rcases Int.lt_or_le at_ (n1 : Int) with a1 | a1
        · rw [decide_eq_true (.inr ⟨rfl, a0, a1⟩)]
          go_enter Tryz.func79, Tryz.ntmps79
          go_wp2_with fail
          go_ret
          exact ⟨rfl, rfl⟩
        · rw [decide_eq_false (by omega)]
          have hd : decide (at_ < (n1 : Int)) = false := decide_eq_false (by omega)
          go_enter Tryz.func79, Tryz.ntmps79
          go_wp2_with fail
          go_ret
          exact ⟨by first | rfl | rw [hd], rfl⟩
    · have b0 : (to == 0) = false := by rw [beq_eq_false_iff_ne]; exact h0
      have b1 : (to == 1) = false := by rw [beq_eq_false_iff_ne]; exact h1
      rw [decide_eq_false (by omega)]
      go_enter Tryz.func79, Tryz.ntmps79
      go_wp2_with fail
      go_ret
      exact ⟨rfl, rfl⟩
/-- How many there are. -/
def lenB (n0 n1 : Nat) (to : Int) : Int := if to = 0 then n0 else if to = 1 then n1 else 0
set_option maxHeartbeats 4000000 in
set_option maxRecDepth 100000 in
theorem nlen_any (w : World) (gd kk : Nat) (A0 A1 : Option Addr) (n0 n1 d0 d1 : Nat) (to : Int) (c0 : w.cell? ⟨gd, kk, none⟩ = some (.slice A0 n0 d0)) (c1 : w.cell? ⟨gd, kk + 1, none⟩ = some (.slice A1 n1 d1)) :
    Calls Tryz.prog 33 #[.pointer (some ⟨gd, kk, none⟩), .int .i64 to] w fun e w' => e = .returned (.int .i64 (lenB n0 n1 to)) ∧ w = w' := by
  unfold lenB
  by_cases h0 : to = 0
  · subst h0
    rw [if_pos rfl]
    go_enter Tryz.func33, Tryz.ntmps33
    go_wp2_with fail
    go_ret
    exact ⟨rfl, rfl⟩
  · rw [if_neg h0]
    by_cases h1 : to = 1
    · subst h1
      rw [if_pos rfl]
      go_enter Tryz.func33, Tryz.ntmps33
      go_wp2_with fail
      go_ret
      exact ⟨rfl, rfl⟩
    · rw [if_neg h1]
      have b0 : (to != 0) = true := bne_iff_ne.2 h0
      have b1 : (to != 1) = true := bne_iff_ne.2 h1
      go_enter Tryz.func33, Tryz.ntmps33
      go_wp2_with fail
      go_ret
      exact ⟨rfl, rfl⟩
end Go.Proofs.YtdneakejlbabeaaGreat

namespace Go.Proofs.YtdneakejlbabeaaGreat
open Go.RowKit
set_option linter.unusedVariables false
set_option linter.unusedSimpArgs false

abbrev By2 := List Int × Bool
def bcells (y : By2) (v : Value) : List Value := [v, .bool y.2]
theorem bcells_len (y : By2) (v : Value) : (bcells y v).length = 2 := rfl
theorem liesB : Lies (fun S w (y : By2) x => BV w S x y.1) := ⟨fun h k hT => h.frm k hT, fun h hS => h.mono hS⟩
theorem Tryz.info149 : (Tryz.prog.info? 149).map (fun i => (i.zero, i.size, i.bytes)) = some (some (.agg #[.slice none 0 0, .bool false]), 2, 32) := by kernel_rfl
abbrev BRw (o : Nat → Nat) (B : Nat) (w : World) (v : Value) (l : List By2) : Prop := OutG bcells 2 149 (fun S w (y : By2) x => BV w S x y.1) B (frozen o) w v l
theorem BV.oneC {w : World} {S : Nat → Prop} {v : Value} {l : List Int} (h : BV w S v l) : v.oneCell' = true := by
  obtain ⟨A, c, rfl, _⟩ := h.len
  rfl
theorem bcells_one {w : World} {S : Nat → Prop} {y : By2} {v : Value} (h : BV w S v y.1) : ∀ u ∈ bcells y v, u.oneCell' = true := by
  intro u hu
  simp only [bcells, List.mem_cons, List.not_mem_nil, or_false] at hu
  rcases hu with rfl | rfl
  · exact h.oneC
  · rfl
theorem BRw.rv {o : Nat → Nat} {B : Nat} {w : World} {v : Value} {l : List By2} (h : BRw o B w v l) : RowV bcells 2 (fun w y x => BV w (frozen o) x y.1) w v l :=
  OutG.row (fun a b hab => bcells_one hab) h
theorem BRw.at_ {o : Nat → Nat} {B : Nat} {w : World} {A : Option Addr} {n c : Nat} {l : List By2} (h : BRw o B w (.slice A n c) l) {i : Nat} (hi : i < l.length) :
    ∃ ad y v, A = some ad ∧ l[i]? = some y ∧ BV w (frozen o) v y.1 ∧ w.cell? (ad.add (i * 2)) = some v ∧ w.cell? ⟨(ad.add (i * 2)).block, (ad.add (i * 2)).off + 1, none⟩ = some (.bool y.2) := by
  obtain ⟨ad, y, v, rfl, hy, hx, hc⟩ := RowV.at_ h.rv (by omega) bcells_len hi
  have h0 := hc 0 _ rfl
  rw [addr_zero] at h0
  have h1 := hc 1 _ rfl
  rw [addr_pos _ _ (by omega)] at h1
  exact ⟨ad, y, v, rfl, hy, hx, h0, h1⟩
/-- A side as a number. -/
def sI (s : Bool) : Int := if s then 1 else 0
def sN (s : Bool) : Nat := if s then 1 else 0
theorem thereS_any (w : World) (gd : Nat) (o : Nat → Nat) (B : Nat) (V : Bool → Value) (L : Bool → List By2) (s : Bool) (at_ : Int) (c0 : w.cell? ⟨gd, 2, none⟩ = some (V false)) (c1 : w.cell? ⟨gd, 3, none⟩ = some (V true)) (h : ∀ s, BRw o B w (V s) (L s)) :
    Calls Tryz.prog 79 #[.pointer (some ⟨gd, 2, none⟩), .int .i64 (sI s), .int .i64 at_] w fun e w' => e = .returned (.bool (decide (0 ≤ at_ ∧ at_ < (L s).length))) ∧ w = w' := by
  obtain ⟨A0, d0, e0⟩ := (h false).form
  obtain ⟨A1, d1, e1⟩ := (h true).form
  rw [e0] at c0
  rw [e1] at c1
  refine (there_any w gd 2 A0 A1 _ _ d0 d1 (sI s) at_ c0 c1).mono ?_
  rintro e _ ⟨rfl, rfl⟩
  refine ⟨?_, rfl⟩
  unfold thereB
  cases s
  · rw [show decide ((sI false = 0 ∧ 0 ≤ at_ ∧ at_ < ((L false).length : Int)) ∨ (sI false = 1 ∧ 0 ≤ at_ ∧ at_ < ((L true).length : Int))) = decide (0 ≤ at_ ∧ at_ < ((L false).length : Int)) from by rw [decide_eq_decide]; simp [sI]]
  · rw [show decide ((sI true = 0 ∧ 0 ≤ at_ ∧ at_ < ((L false).length : Int)) ∨ (sI true = 1 ∧ 0 ≤ at_ ∧ at_ < ((L true).length : Int))) = decide (0 ≤ at_ ∧ at_ < ((L true).length : Int)) from by rw [decide_eq_decide]; simp [sI]]
def NGetR (o : Nat → Nat) (w : World) (l : List By2) (at_ : Int) (e : Ending) (w' : World) : Prop :=
  w = w' ∧ ((∃ (i : Nat) (y : By2) (v : Value), at_ = (i : Int) ∧ l[i]? = some y ∧ BV w (frozen o) v y.1 ∧ e = .returned (.tuple #[v, .bool true])) ∨ (¬ (0 ≤ at_ ∧ at_ < (l.length : Int)) ∧ e = .returned (.tuple #[.slice none 0 0, .bool false])))
set_option maxHeartbeats 4000000 in
set_option maxRecDepth 100000 in
theorem nget_any (w : World) (gd : Nat) (o : Nat → Nat) (B : Nat) (V : Bool → Value) (L : Bool → List By2) (s : Bool) (at_ : Int) (c0 : w.cell? ⟨gd, 2, none⟩ = some (V false)) (c1 : w.cell? ⟨gd, 3, none⟩ = some (V true)) (h : ∀ s, BRw o B w (V s) (L s)) :
    Calls Tryz.prog 70 #[.pointer (some ⟨gd, 2, none⟩), .int .i64 (sI s), .int .i64 at_] w fun e w' => NGetR o w (L s) at_ e w' := by
  have T := Lib.hid (thereS_any w gd o B V L s at_ c0 c1 h)
  by_cases hin : 0 ≤ at_ ∧ at_ < ((L s).length : Int)
  · obtain ⟨a0, a1⟩ := hin
    obtain ⟨i, rfl⟩ : ∃ i : Nat, at_ = (i : Int) := ⟨at_.toNat, by omega⟩
    obtain ⟨A, d, e⟩ := (h s).form
    obtain ⟨ad, y, v, rfl, hy, hx, h0, h1⟩ := BRw.at_ (e ▸ h s) (i := i) (by omega)
    have FIN : Hid (NGetR o w (L s) i (.returned (.tuple #[v, .bool true])) w) := Lib.hid ⟨rfl, .inl ⟨i, y, v, rfl, hy, hx, rfl⟩⟩
    rw [decide_eq_true (by exact ⟨a0, a1⟩)] at T
    obtain ⟨n, hn⟩ : ∃ n, (L s).length = n := ⟨_, rfl⟩
    rw [hn] at a1 e
    clear hy hx h hn
    cases s
    all_goals
      first | rw [e] at c0 | rw [e] at c1
      unfold sI at *
      clear e
      go_enter Tryz.func70, Tryz.ntmps70
      go_wp2_with fail
      refine T.out.mono ?_
      rintro e _ ⟨rfl, rfl⟩
      go_wp2_with fail
      refine bodyPost_ret (results_two rfl _ _ _) rfl ?_
      exact FIN.out
  · rw [decide_eq_false hin] at T
    have FIN : Hid (NGetR o w (L s) at_ (.returned (.tuple #[.slice none 0 0, .bool false])) w) := Lib.hid ⟨rfl, .inr ⟨hin, rfl⟩⟩
    clear h hin c0 c1
    go_enter Tryz.func70, Tryz.ntmps70
    go_wp2_with fail
    refine T.out.mono ?_
    rintro e _ ⟨rfl, rfl⟩
    go_wp2_with fail
    refine bodyPost_ret (results_two rfl _ _ _) rfl ?_
    exact FIN.out
end Go.Proofs.YtdneakejlbabeaaGreat

namespace Go.Proofs.YtdneakejlbabeaaGreat
open Go.RowKit
set_option linter.unusedVariables false
set_option linter.unusedSimpArgs false

/-- An event's cells in a block. -/
def EB (w : World) (g : Nat) (e : Ev) (x y : Value) : Prop := w.cell? ⟨g, 0, none⟩ = some (.int .i64 e.kind) ∧ w.cell? ⟨g, 1, none⟩ = some (.int .i64 e.n) ∧ w.cell? ⟨g, 2, none⟩ = some x ∧ w.cell? ⟨g, 3, none⟩ = some (.int .i64 e.pk.kind) ∧ w.cell? ⟨g, 4, none⟩ = some (.int .i64 e.pk.path) ∧ w.cell? ⟨g, 5, none⟩ = some (.int .i64 e.pk.number) ∧ w.cell? ⟨g, 6, none⟩ = some (.int .i64 e.pk.of_) ∧
  w.cell? ⟨g, 7, none⟩ = some (.int .i64 e.pk.from_) ∧ w.cell? ⟨g, 8, none⟩ = some y ∧ w.cell? ⟨g, 9, none⟩ = some (.bool e.pk.fin) ∧ w.cell? ⟨g, 10, none⟩ = some (.int .i64 e.pk.seen) ∧ w.cell? ⟨g, 11, none⟩ = some (.int .i64 e.pk.limit)
theorem EB.of {w : World} {g : Nat} {e : Ev} {x y : Value} (h : Blk w g (ecells e (x, y)).toArray 29) : EB w g e x y :=
  ⟨h.cell 0, h.cell 1, h.cell 2, h.cell 3, h.cell 4, h.cell 5, h.cell 6, h.cell 7, h.cell 8, h.cell 9, h.cell 10, h.cell 11⟩
def EventR (o : Nat → Nat) (k B : Nat) (w : World) (ge : Nat) (x : EndV) (ev : Ev) (e : Ending) (w' : World) : Prop :=
  e = .returned (.tuple #[]) ∧ ∃ (o' : Nat → Nat) (v : Value) (m : Int), EndS o' k B w' ge { x with vE := v, es := x.es ++ [ev], m0 := m } ∧ Stp (fun c => c = k ∨ c = k + 7) o o' w w'
set_option maxHeartbeats 8000000 in
set_option maxRecDepth 100000 in
theorem event_any (o : Nat → Nat) (k B : Nat) (w : World) (ge : Nat) (x : EndV) (ev : Ev) (vx vy : Value) (h : EndS o k B w ge x) (hB : B ≤ w.heap.size) (hev : EV w (frozen o) ev (vx, vy)) (hl : x.es.length ≤ 100000000) :
    Calls Tryz.prog 58 #[.pointer (some ⟨ge, 0, none⟩), eagg ev vx vy] w fun e w' => EventR o k B w ge x ev e w' := by
  have H := Lib.hid h
  have HE := Lib.hid hev
  have HI := Lib.hid Tryz.info29
  have gl := h.blk.lt
  obtain ⟨A, c, hvE⟩ := h.c7.r.form
  have c17 := h.blk.cell 17
  simp only [List.getElem?_toArray, List.getElem?_cons_zero, List.getElem?_cons_succ] at c17
  obtain ⟨w0, hw0⟩ : ∃ W, W = w.alloc (.cells (ecells ev (vx, vy)).toArray 29) := ⟨_, rfl⟩
  obtain ⟨gb, hgb⟩ : ∃ h, h = w.heap.size := ⟨_, rfl⟩
  have B0 : Hid (Below w.heap.size w w0) := Lib.hid (by rw [hw0]; exact (Below.refl _ _).alloc (Nat.le_refl _) _)
  have BX : Hid (Blk w0 gb (ecells ev (vx, vy)).toArray 29) := Lib.hid (by rw [hw0, hgb]; exact Blk.new _ _ _)
  have hw0' : w.alloc (.cells #[.int .i64 ev.kind, .int .i64 ev.n, vx, .int .i64 ev.pk.kind, .int .i64 ev.pk.path, .int .i64 ev.pk.number, .int .i64 ev.pk.of_, .int .i64 ev.pk.from_, vy, .bool ev.pk.fin, .int .i64 ev.pk.seen, .int .i64 ev.pk.limit] 29) = w0 := hw0.symm
  obtain ⟨Ax, cx, hvx, _, _⟩ := hev.1.len
  obtain ⟨Ay, cy, hvy, _, _⟩ := hev.2.len
  subst hvx
  subst hvy
  have HV := Lib.hid hvE
  rw [hvE] at c17
  have HGB := Lib.hid hgb
  clear h hev hw0 hvE
  go_enter Tryz.func58, Tryz.ntmps58
  go_wp2_with fail
  rw [← hgb]
  clear hgb hw0'
  have d17 : w0.cell? ⟨ge, 17, none⟩ = some (.slice A x.es.length c) := (B0.out.cell (p := ⟨ge, 17, none⟩) gl).trans c17
  have d17b := fun o => cell_in_alloc' d17 o
  have d17c := fun o => cell_in_alloc' (show w0.drew.cell? ⟨ge, 17, none⟩ = _ from d17) o
  obtain ⟨k0, k1, k2, k3, k4, k5, k6, k7, k8, k9, k10, k11⟩ := EB.of BX.out
  obtain ⟨vs, r1, r2, r3, r4⟩ := H.out.c7.r
  have R1 : Hid (w0.drew.ownsRow B 29 12 (.slice A x.es.length c) x.es.length (rowsG ecells x.es vs)) := Lib.hid (own_frm (HV.out ▸ r1) (Frm.of_below (S := fun _ => False) B0.out.drew) (fun _ _ h => h))
  have RW : Hid (w.ownsRow B 29 12 (.slice A x.es.length c) x.es.length (rowsG ecells x.es vs)) := Lib.hid (HV.out ▸ r1)
  have R2 := Lib.hid r2
  have R3 := Lib.hid r3
  have hone := Lib.hid HE.out.one
  have sB : B ≤ w0.drew.heap.size := Nat.le_trans hB B0.out.size
  have OWE := Lib.hid (HV.out ▸ H.out.c7.ow : Ow o w (k + 7) (.slice A x.es.length c))
  have ogk := H.out.og
  have hgn : ¬ (Value.slice A x.es.length c).ownBlock = some ge := fun e => by have := (OWE.out ge e).1; omega
  have f17 := H.out.blk.free 17
  clear r1 r2 r3 r4 c17
  first | (go_region_law (first | (refine step_app (v := .slice A x.es.length c) B (by rfl) _ _ 30 29 _ 12 128 (by rfl) Tryz.underlying30 HI.out rfl (by omega) (by omega) (by rfl) (by rfl) (R1.out.alloc _) (Sl.boxk w0.drew 29 12 (ecells ev (.slice Ax ev.data.length cx, .slice Ay ev.pk.data.length cy)) _ (by simp) rfl hone.out) (by omega) (Nat.le_trans sB (by simp)) ?_; intro v7 w7 hown hfr hat; have F7 : Hid (Frm (fun j => (Value.slice A x.es.length c).ownBlock = some j) w w7) := Lib.hid (((Frm.of_below B0.out.drew).alloc _).trans hfr); have O7 := Lib.hid hown; have HAT : Hid (v7.ownBlock = (Value.slice A x.es.length c).ownBlock ∨ ∀ j, v7.ownBlock = some j → w.heap.size ≤ j) := Lib.hid (hat.imp id (fun e j hj => by rw [e] at hj; injection hj with hj; rw [← hj]; exact Nat.le_trans B0.out.size (by simp))); have e17 := (show w7.cell? ⟨ge, 17, none⟩ = w.cell? ⟨ge, 17, none⟩ from World.cell?_of_block (F7.out.block ge gl hgn)).trans (H.out.blk.cell 17); have g17 := (show w7.frozen? ⟨ge, 17, none⟩ = w.frozen? ⟨ge, 17, none⟩ from World.frozen?_of_block (F7.out.block ge gl hgn)).trans f17; simp only [List.getElem?_toArray, List.getElem?_cons_zero, List.getElem?_cons_succ] at e17; obtain ⟨A7, c7_, rfl⟩ := own_slice' hown; clear hown hfr hat) | fail)) | fail
  all_goals
    obtain ⟨v7, hv7⟩ : ∃ v, v = Value.slice A7 (x.es.length + 1) c7_ := ⟨_, rfl⟩
    rw [← hv7] at O7 HAT ⊢
    clear hv7
    have X8 : Hid (EndS (ext o w.heap.size v7 (k + 7)) k B (w7.setCell ⟨ge, 17, none⟩ v7) ge { x with vE := v7, es := x.es ++ [ev], m0 := x.m0 } ∧ Stp (fun c => c = k ∨ c = k + 7) o (ext o w.heap.size v7 (k + 7)) w (w7.setCell ⟨ge, 17, none⟩ v7)) := Lib.hid (by
      obtain ⟨p1, p2⟩ := OutG.push liesE RW.out R2.out R3.out OWE.out (by omega) HE.out F7.out O7.out HAT.out
      have f8 := (Frm.refl (· = ge) w7).setg (i := 17) v7
      have hne : ∀ j, v7.ownBlock = some j → j ≠ ge := fun j hj e => by
        have h1 := (p2 j hj).1
        rw [e, ext_agr o _ v7 _ ge gl] at h1
        omega
      have s8 : Stp (fun c => c = k ∨ c = k + 7) o (ext o w.heap.size v7 (k + 7)) w (w7.setCell ⟨ge, 17, none⟩ v7) := ⟨(F7.out.mono (fun j hj => .inr (OWE.out j hj).1)).setCell (.inl (.inl ogk)) v7, ext_agr _ _ _ _⟩
      refine ⟨H.out.put7 s8 (by simpa using (H.out.blk.frm F7.out hgn).set 17 v7) ⟨OutG.frm liesE p1 f8 (fun j hj e => ?_) hne, fun j hj => ⟨(p2 j hj).1, Nat.lt_of_lt_of_le (p2 j hj).2 f8.size⟩⟩, s8⟩
      have h1 : ext o w.heap.size v7 (k + 7) j = 0 := hj
      rw [e, ext_agr o _ v7 _ ge gl] at h1
      have := H.out.kp
      omega)
    obtain ⟨w8, hw8⟩ : ∃ W, W = w7.setCell ⟨ge, 17, none⟩ v7 := ⟨_, rfl⟩
    rw [← hw8] at X8 ⊢
    clear hw8
    obtain ⟨o8, ho8⟩ : ∃ f, f = ext o w.heap.size v7 (k + 7) := ⟨_, rfl⟩
    rw [← ho8] at X8
    clear ho8 e17 g17 d17 d17b d17c
    have n19 := X8.out.1.blk.cell 19
    have y19 := X8.out.1.blk.free 19
    simp only [List.getElem?_toArray, List.getElem?_cons_zero, List.getElem?_cons_succ] at n19
    obtain ⟨mm, hmm⟩ : ∃ m, IntKind.i64.wrap (x.m0 + 1) = m := ⟨_, rfl⟩
    go_wp2_with fail
    refine wp_region_still_tail (id := 2) 9 (by kernel_rfl) (by kernel_rfl) ?_
    change wpStill _ _ (World.drew _) (fun a' => wpList _ _ _ _ a' (World.drew _)) _ _
    simp only [List.take_succ_cons, List.take_zero, List.drop_succ_cons, List.drop_zero]
    repeat still_step
    refine wpStill_nil ?_
    go_wp2_with fail
    go_end0
    have s9 : Stp (fun c => c = k) o8 o8 w8 (w8.setCell ⟨ge, 19, none⟩ (.int .i64 mm)) := ⟨(Frm.refl _ _).setCell (.inl X8.out.1.og) _, Agr.refl _ _⟩
    refine ⟨rfl, o8, v7, mm, ?_, ?_⟩
    · have h9 := X8.out.1.put7 (s9.mono (fun c hc => .inl hc)) (vE' := v7) (es' := x.es ++ [ev]) (m := mm) (by simpa using X8.out.1.blk.set 19 (.int .i64 mm)) (X8.out.1.c7.frm s9 (by have := X8.out.1.kp; omega) (by omega))
      exact h9.frm (C := fun _ => False) ⟨(Frm.refl _ _).drew, Agr.refl _ _⟩ (fun h => h) (fun _ h => h.elim)
    · exact X8.out.2.trans ((s9.mono (fun c hc => .inl hc)).trans ⟨(Frm.refl _ _).drew, Agr.refl _ _⟩)
end Go.Proofs.YtdneakejlbabeaaGreat
