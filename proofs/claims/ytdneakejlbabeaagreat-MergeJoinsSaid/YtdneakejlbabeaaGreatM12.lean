/- Parts of the walk: Db, Dk, Ec. -/
import Derived.Test.YtdneakejlbabeaaGreatM00
import Derived.BigQuiet
import Derived.StillTailTactics
import Derived.RegionTactic
import Derived.Test.YtdneakejlbabeaaGreatM03
import Derived.Deep.RegionHeld3
import Derived.Deep.RegionLaw
namespace Go.Proofs.YtdneakejlbabeaaGreat
open Go.RowKit
set_option linter.unusedVariables false
set_option linter.unusedSimpArgs false
section
attribute [local go_sem] run_max2' run_min2' run_max_ run_min_
theorem GOk.drew {w : World} {g : Nat} (h : GOk w g) : GOk w.drew g := h
theorem GOk.drewN {w : World} {g : Nat} (h : GOk w g) (n : Nat) : GOk (w.drewN n) g := h
theorem WOk.drew {w : World} {g : Nat} (h : WOk w g) : WOk w.drew g := h
theorem WOk.drewN {w : World} {g : Nat} (h : WOk w g) (n : Nat) : WOk (w.drewN n) g := h
end

section
attribute [local go_sem] run_max2' run_min2' run_max_ run_min_
abbrev PaC (w : World) (g : Nat) (u j b : Bool) (s : Int) (gG gW : Nat) (A : Option Addr) (n c : Nat) : Prop := Blk w g #[.bool u, .bool j, .bool b, .int .i64 s, .pointer (some ⟨gG, 0, none⟩), .pointer (some ⟨gW, 0, none⟩), .slice A n c] 128
def NumR (w : World) (g : Nat) (s : Int) (e : Ending) (w' : World) : Prop :=
 (65535 < s ∧ e = .returned (.tuple #[.int .i64 0, .bool false]) ∧ w' = w) ∨ (s ≤ 65535 ∧ e = .returned (.tuple #[.int .i64 s, .bool true]) ∧ w' = w.setCell ⟨g, 3, none⟩ (.int .i64 (s + 1)))
theorem res_two {fn : Func} {t u : Tmp} (h : fn.results = #[.tmp t, .tmp u]) (tmps : Array Value) (P : Program) (w : World) :
  (results fn tmps).run P w = .ok (.tuple #[tmps.getD t undef, tmps.getD u undef]) w := by
 simp [results, h]
theorem number_any (w : World) (g : Nat) (u j b : Bool) (s : Int) (gG gW : Nat) (A : Option Addr) (n c : Nat) (h : PaC w g u j b s gG gW A n c) (hs : 0 ≤ s ∧ s ≤ 65536) :
  Calls Tryz.prog 95 #[.pointer (some ⟨g, 0, none⟩)] w fun e w' => NumR w g s e w' := by
 have c3 := h.cell 3
 have f3 := h.free 3
 simp at c3
 have iw : IntKind.i64.wrap (s + 1) = s + 1 := iX
 have iw2 : IntKind.i64.wrap s = s := iX
 have iw3 : IntKind.i64.wrap (s + 1 - 1) = s := by rw [show s + 1 - 1 = s by omega]; exact iw2
 clear h
 by_cases hm : 65535 < s
 ·go_enter Tryz.func95, Tryz.ntmps95
  go_wp2_with fail
  refine bodyPost_ret (res_two rfl _ _ _) rfl ?_
  exact .inl ⟨hm, rfl, rfl⟩
 ·go_enter Tryz.func95, Tryz.ntmps95
  go_wp2_with fail
  refine bodyPost_ret (res_two rfl _ _ _) rfl ?_
  exact .inr ⟨by omega, rfl, rfl⟩
set_option maxHeartbeats 4000000 in
set_option maxRecDepth 100000 in
theorem usable1_any (w : World) (g : Nat) (u j b : Bool) (s : Int) (gG gW : Nat) (A : Option Addr) (n c : Nat) (m z t k : Int) (h : PaC w g u j b s gG gW A n c) (hw : Blk w gW #[.int .i64 m, .int .i64 z, .int .i64 t, .int .i64 k] 176) (q : Bool) (hq : (u && j && decide ((n : Int) < z) && decide (s ≤ 65535)) = q) :
  Calls Tryz.prog 93 #[.pointer (some ⟨g, 0, none⟩)] w fun e w' => e = .returned (.bool q) ∧ Below w.heap.size w w' := by
 have c0 := h.cell 0
 have c1 := h.cell 1
 have c3 := h.cell 3
 have c5 := h.cell 5
 have c6 := h.cell 6
 have d1 := hw.cell 1
 simp at c0 c1 c3 c5 c6 d1
 clear h hw
 have hbel := fun k : Nat => below_drewN (Below.refl w.heap.size w) k
 obtain ⟨p1, hp1⟩ : ∃ p, decide ((n : Int) < z) = p := ⟨_, rfl⟩
 obtain ⟨p2, hp2⟩ : ∃ p, decide (s ≤ 65535) = p := ⟨_, rfl⟩
 rw [hp1, hp2] at hq
 cases u
 ·simp at hq
  subst hq
  go_enter Tryz.func93, Tryz.ntmps93
  go_wp2_with fail
  go_quiet (fail)
  go_wp2_with fail
  go_ret
  exact ⟨rfl, hbel _⟩
 ·cases j
  ·simp at hq
   subst hq
   go_enter Tryz.func93, Tryz.ntmps93
   go_wp2_with fail
   go_quiet (fail)
   go_wp2_with fail
   go_ret
   exact ⟨rfl, hbel _⟩
  ·cases p1
   ·simp at hq
    subst hq
    have hn : ¬ (n : Int) < z := of_decide_eq_false hp1
    go_enter Tryz.func93, Tryz.ntmps93
    go_wp2_with fail
    go_quiet (fail)
    go_wp2_with fail
    go_ret
    exact ⟨rfl, hbel _⟩
   ·simp at hq
    have hn : (n : Int) < z := of_decide_eq_true hp1
    subst hq
    go_enter Tryz.func93, Tryz.ntmps93
    go_wp2_with fail
    go_quiet (fail)
    go_wp2_with fail
    go_ret
    exact ⟨by first | rfl | simp [hp2], hbel _⟩
set_option maxHeartbeats 4000000 in
set_option maxRecDepth 100000 in
theorem ilimit_any (w : World) (g : Nat) (wi ta en : Int) (A A2 : Option Addr) (n c n2 c2 : Nat) (h : Blk w g #[.int .i64 wi, .int .i64 ta, .int .i64 en, .slice A n c, .slice A2 n2 c2] 154) (hs : 0 ≤ wi ∧ wi ≤ 1000000 ∧ 0 ≤ ta ∧ ta ≤ 1000000) :
  Calls Tryz.prog 76 #[.pointer (some ⟨g, 0, none⟩)] w fun e w' => e = .returned (.int .i64 (ta + wi)) ∧ Below w.heap.size w w' := by
 have c0 := h.cell 0
 have c1 := h.cell 1
 simp at c0 c1
 have iw : IntKind.i64.wrap (ta + wi) = ta + wi := iX
 have hbel := fun k : Nat => below_drewN (Below.refl w.heap.size w) k
 clear h
 go_enter Tryz.func76, Tryz.ntmps76
 go_wp2_with fail
 go_quiet (fail)
 go_wp2_with fail
 go_ret
 exact ⟨rfl, hbel _⟩
end

section
attribute [local go_sem] run_max2' run_min2' run_max_ run_min_
def frontL : List (Int × Int) → Int
 | [] => 0
 | r :: _ => if r.1 = 0 then r.2 else 0
theorem setfront_any (w : World) (gs k : Nat) (v : Value) (rs : List (Int × Int)) (hc : w.cell? ⟨gs, k, none⟩ = some v) (hr : RR w v rs) :
  Calls Tryz.prog 118 #[.pointer (some ⟨gs, k, none⟩)] w fun e w' => e = .returned (.int .i64 (frontL rs)) ∧ w = w' := by
 obtain ⟨A, c, rfl, _, hm⟩ := hr.len
 have H := hid hr
 have hn : rs.length ≤ 9223372036854775807 := by unfold maxLen at hm; omega
 clear hr
 cases rs with
 | nil =>
  go_enter Tryz.func118, Tryz.ntmps118
  go_wp2
  go_ret
  exact ⟨rfl, rfl⟩
 | cons r rs =>
  obtain ⟨ad, rfl, c0, c1⟩ := RR.at_ H.out (i := 0) (by simp)
  obtain ⟨a, b⟩ := r
  simp only [List.getElem_cons_zero, Nat.zero_mul, addr_zero] at c0 c1
  have h0 : (0 : Int) < ((rs.length + 1 : Nat) : Int) := by omega
  have HL : (((a, b) :: rs : List (Int × Int)).length) = rs.length + 1 := rfl
  rw [HL] at *
  obtain ⟨n, hn'⟩ : ∃ n, rs.length + 1 = n := ⟨_, rfl⟩
  rw [hn'] at *
  by_cases ha : a = 0
  ·subst ha
   have e : frontL ((0, b) :: rs) = b := rfl
   rw [e]
   go_enter Tryz.func118, Tryz.ntmps118
   go_wp2
   go_ret
   exact ⟨rfl, rfl⟩
  ·have e : frontL ((a, b) :: rs) = 0 := by unfold frontL; simp [ha]
   rw [e]
   go_enter Tryz.func118, Tryz.ntmps118
   go_wp2
   go_ret
   exact ⟨rfl, rfl⟩
theorem cell_same {w W : World} (hW : W.heap = w.heap) (p : Addr) : W.cell? p = w.cell? p := by simp only [World.cell?, hW]
theorem Blk.same {w W : World} {g : Nat} {cs : Array Value} {t : TypeId} (h : Blk w g cs t) (hW : W.heap = w.heap) : Blk W g cs t := by unfold Blk at *; rw [hW]; exact h
theorem Sl.same {w W : World} {size n : Nat} {v : Value} {xs : List Value} (h : Sl w size v n xs) (hW : W.heap = w.heap) : Sl W size v n xs := by
 obtain ⟨A, c, e, h1, h2, h3, h4, h5⟩ := h
 exact ⟨A, c, e, h1, h2, h3, h4, fun h0 => by
  obtain ⟨ad, e, hc⟩ := h5 h0
  exact ⟨ad, e, fun j u hj => (cell_same hW _).trans (hc j u hj)⟩⟩
theorem Sl.sub {w : World} {s n c t u : Nat} {A : Option Addr} {xs : List Value} (h : Sl w s (.slice A n c) n xs) (ht : t ≤ u) (hu : u ≤ n) :
  Sl w s (.slice (if c = t then A else Option.map (fun x => x.add (t * s)) A) (u - t) (c - t)) (u - t) ((xs.drop (t * s)).take ((u - t) * s)) := by
 obtain ⟨A', c', e, h1, h2, hl, h3, hr⟩ := h
 injection e with e1 e2 e3
 subst e1 e3
 have hm : t * s + (u - t) * s ≤ n * s := by rw [← Nat.add_mul]; exact Nat.mul_le_mul_right _ (by omega)
 refine ⟨_, _, rfl, by omega, by omega, by rw [List.length_take, List.length_drop]; omega, fun x hx => h3 x (List.mem_of_mem_drop (List.mem_of_mem_take hx)), fun h0 => ?_⟩
 have hut : t < u := by
  rcases Nat.lt_or_ge t u with h | h
  ·exact h
  ·rw [show u - t = 0 by omega] at h0
   simp at h0
 rw [if_neg (show ¬ c = t by omega)]
 have hx : 0 < xs.length := by
  rw [List.length_take, List.length_drop] at h0
  omega
 obtain ⟨ad, rfl, hc⟩ := hr hx
 refine ⟨_, rfl, fun j v hj => ?_⟩
 rw [addr_add]
 have hlt := (List.getElem?_eq_some_iff.1 hj).1
 rw [List.length_take] at hlt
 rw [List.getElem?_take, if_pos (by omega), List.getElem?_drop] at hj
 exact hc _ v hj
theorem Sl.sub1 {w : World} {n c t u : Nat} {A : Option Addr} {xs : List Value} (h : Sl w 1 (.slice A n c) n xs) (ht : t ≤ u) (hu : u ≤ n) :
  Sl w 1 (.slice (if c = t then A else Option.map (fun x => x.add t) A) (u - t) (c - t)) (u - t) ((xs.drop t).take (u - t)) := by
 have := h.sub ht hu
 simpa only [Nat.mul_one] using this
abbrev IbC (w : World) (g : Nat) (wi ta en : Int) (vb vg : Value) : Prop := Blk w g #[.int .i64 wi, .int .i64 ta, .int .i64 en, vb, vg] 154
section
variable {w : World} {g : Nat} {wi ta en : Int} {vb vg : Value} {rs : List (Int × Int)}
theorem front_any (h : IbC w g wi ta en vb vg) (hr : RR w vg rs) :
  Calls Tryz.prog 105 #[.pointer (some ⟨g, 0, none⟩)] w fun e w' => e = .returned (.int .i64 (frontL rs)) ∧ w = w' := by
 have c4 := h.cell 4
 simp at c4
 clear h
 go_enter Tryz.func105, Tryz.ntmps105
 go_wp2_with fail
 refine (setfront_any w g 4 vg rs c4 hr).mono ?_
 rintro e _ ⟨rfl, rfl⟩
 go_wp2_with fail
 go_ret
 exact ⟨rfl, rfl⟩
theorem ready_any (h : IbC w g wi ta en vb vg) (hr : RR w vg rs) :
  Calls Tryz.prog 96 #[.pointer (some ⟨g, 0, none⟩)] w fun e w' => e = .returned (.int .i64 (IntKind.i64.wrap (frontL rs - ta))) ∧ ∃ n, w' = w.drewN n := by
 have c1 := h.cell 1
 simp at c1
 have H := hid h
 have HR := hid hr
 clear h hr
 obtain ⟨f, hf⟩ : ∃ f, frontL rs = f := ⟨_, rfl⟩
 have HF := hid hf
 rw [hf]
 clear hf
 have FA : Hid (∀ W : World, W.heap = w.heap → Calls Tryz.prog 105 #[.pointer (some ⟨g, 0, none⟩)] W fun e w' => e = .returned (.int .i64 f) ∧ w' = W) := hid (fun W hW => (front_any (w := W) (Blk.same H.out hW) (Sl.same HR.out hW)).mono (by rintro e _ ⟨rfl, rfl⟩; exact ⟨by rw [HF.out], rfl⟩))
 obtain ⟨z, hz⟩ : ∃ z, IntKind.i64.wrap (f - ta) = z := ⟨_, rfl⟩
 rw [hz]
 go_enter Tryz.func96, Tryz.ntmps96
 go_wp2_with fail
 go_quiet (first | (go_at_call 105; exact Calls.quiet_of_same (FA.out _ rfl)))
 go_wp2_with fail
 go_ret
 exact ⟨rfl, _, rfl⟩
theorem drewN_drewN (w : World) (n m : Nat) : ∃ k, (w.drewN n).drewN m = w.drewN k := ⟨n + m, by simp [World.drewN, Nat.add_assoc]⟩
def seenL (en : Int) (rs : List (Int × Int)) : Int := if 0 ≤ en ∧ en ≤ frontL rs then IntKind.i64.wrap (en + 1) else frontL rs
theorem seen_any (h : IbC w g wi ta en vb vg) (hr : RR w vg rs) :
  Calls Tryz.prog 75 #[.pointer (some ⟨g, 0, none⟩)] w fun e w' => e = .returned (.int .i64 (seenL en rs)) ∧ ∃ n, w' = w.drewN n := by
 have c2 := h.cell 2
 simp at c2
 have H := hid h
 have HR := hid hr
 clear h hr
 obtain ⟨f, hf⟩ : ∃ f, frontL rs = f := ⟨_, rfl⟩
 have HF := hid hf
 unfold seenL
 rw [hf]
 clear hf
 have FA : Hid (∀ W : World, W.heap = w.heap → Calls Tryz.prog 105 #[.pointer (some ⟨g, 0, none⟩)] W fun e w' => e = .returned (.int .i64 f) ∧ w' = W) := hid (fun W hW => (front_any (w := W) (Blk.same H.out hW) (Sl.same HR.out hW)).mono (by rintro e _ ⟨rfl, rfl⟩; exact ⟨by rw [HF.out], rfl⟩))
 by_cases h1 : 0 ≤ en
 ·by_cases h2 : en ≤ f
  ·rw [if_pos ⟨h1, h2⟩]
   have h1' : decide (0 ≤ en) = true := decide_eq_true h1
   have h3 : decide (en ≤ f) = true := decide_eq_true h2
   obtain ⟨z, hz⟩ : ∃ z, IntKind.i64.wrap (en + 1) = z := ⟨_, rfl⟩
   rw [hz]
   go_enter Tryz.func75, Tryz.ntmps75
   go_wp2_with fail
   go_quiet (first | (go_at_call 105; exact Calls.quiet_of_same (FA.out _ rfl)))
   go_wp2_with fail
   go_ret
   exact ⟨rfl, _, rfl⟩
  ·rw [if_neg (fun h => h2 h.2)]
   have h3 : decide (en ≤ f) = false := decide_eq_false h2
   have h1' : decide (0 ≤ en) = true := decide_eq_true h1
   go_enter Tryz.func75, Tryz.ntmps75
   go_wp2_with fail
   go_quiet (first | (go_at_call 105; exact Calls.quiet_of_same (FA.out _ rfl)))
   go_wp2_with fail
   refine (FA.out (World.drewN _ _) rfl).mono ?_
   rintro e _ ⟨rfl, rfl⟩
   go_wp2_with fail
   go_ret
   exact ⟨rfl, _, rfl⟩
 ·rw [if_neg (fun h => h1 h.1)]
  have h1' : decide (0 ≤ en) = false := decide_eq_false h1
  go_enter Tryz.func75, Tryz.ntmps75
  go_wp2_with fail
  go_quiet (first | (go_at_call 105; exact Calls.quiet_of_same (FA.out _ rfl)))
  go_wp2_with fail
  refine (FA.out (World.drewN _ _) rfl).mono ?_
  rintro e _ ⟨rfl, rfl⟩
  go_wp2_with fail
  go_ret
  exact ⟨rfl, _, rfl⟩
def IReadR (w : World) (g : Nat) (t f : Nat) (e : Ending) (w' : World) : Prop := ∃ v' l wz, e = .returned v' ∧ BO w.heap.size w' v' l ∧ t + l.length ≤ f ∧ Below w.heap.size w wz ∧ w' = wz.setCell ⟨g, 1, none⟩ (.int .i64 ((t + l.length : Nat) : Int))
set_option maxHeartbeats 4000000 in
set_option maxRecDepth 100000 in
theorem iread_any (S : Nat → Prop) (bl : List Int) (t f : Nat) (n : Int) (h : IbC w g wi t en vb vg) (hr : RR w vg rs) (hb : BV w S vb bl) (hf : frontL rs = f) (htf : t ≤ f) (hfb : f ≤ bl.length) (hbl : bl.length ≤ 1000000) :
  Calls Tryz.prog 68 #[.pointer (some ⟨g, 0, none⟩), .int .i64 n] w fun e w' => IReadR w g t f e w' := by
 have c1 := h.cell 1
 have c3 := h.cell 3
 have f1 := h.free 1
 simp at c1 c3
 have H := hid h
 have HR := hid hr
 have HF := hid hf
 have HB := hid hb
 have HI := hid Tryz.info5
 obtain ⟨A, c, rfl, hbc, hbm⟩ := hb.len
 have iwf : IntKind.i64.wrap ((f : Int) - (t : Int)) = ((f - t : Nat) : Int) := by rw [iX]; omega
 clear h hr hb hf
 obtain ⟨k, hk, hkf⟩ : ∃ k : Nat, mn (mx n 0) ((f - t : Nat) : Int) = (k : Int) ∧ t + k ≤ f := by
  refine ⟨(mn (mx n 0) ((f - t : Nat) : Int)).toNat, ?_, ?_⟩
  ·unfold mn mx; split <;> split <;> omega
  ·unfold mn mx; split <;> split <;> omega
 have HK := hid hk
 clear hk
 go_enter Tryz.func68, Tryz.ntmps68
 go_wp2_with fail
 refine (ready_any H.out HR.out).mono ?_
 rintro e _ ⟨rfl, m, rfl⟩
 rw [HF.out, iwf]
 go_wp2_with fail
 refine (clamp_any _ _ _ _).mono ?_
 rintro e _ ⟨rfl, rfl⟩
 rw [HK.out]
 obtain ⟨u, hu⟩ : ∃ u : Nat, t + k = u := ⟨_, rfl⟩
 have HU := hid hu
 have iwk : IntKind.i64.wrap ((t : Int) + (k : Int)) = (u : Int) := by rw [iX]; omega
 have i0 : (0 : Int) ≤ (t : Int) := by omega
 have i1 : (t : Int) ≤ (u : Int) := by omega
 have i2 : (u : Int) ≤ (c : Int) := by omega
 clear hu
 go_wp2_with fail
 refine wp_region_still_tail (id := 2) 15 (by kernel_rfl) (by kernel_rfl) ?_
 change wpStill _ _ (World.drew _) (fun a' => wpList _ _ _ _ a' (World.drew _)) _ _
 simp only [List.take_succ_cons, List.take_zero, List.drop_succ_cons, List.drop_zero]
 repeat still_step
 refine wpStill_nil ?_
 have HS : Hid (Sl (w.drewN m).drew 1 _ (u - t) ((u8s bl).drop t |>.take (u - t))) := hid (Sl.sub1 (t := t) (u := u) (show Sl (w.drewN m).drew 1 (.slice A bl.length c) bl.length (u8s bl) from HB.out.sl) (by have := HU.out; omega) (by have := HU.out; omega))
 have hsz : w.heap.size ≤ (w.drewN m).drew.heap.size := Nat.le_refl _
 have hut : u - t ≤ 1000000 := by have := HU.out; omega
 obtain ⟨A6, hA6⟩ : ∃ x, (if c = t then A else Option.map (fun x => x.add t) A) = x := ⟨_, rfl⟩
 rw [hA6] at HS ⊢
 clear hA6
 go_wp2_with (at_builtin; refine wp_app w.heap.size rfl _ _ 25 5 (.int .u8 0) 1 1 rfl Tryz.underlying25 HI.out rfl (by omega) (by omega) rfl rfl (World.ownsRow_nil _ _ _ _) HS.out (by omega) hsz ?_; intro v7 w7 hown hfr hat; simp only [Nat.zero_add, List.nil_append] at hown; have HO := hid hown; have HB7 : Hid (Below w.heap.size w w7) := hid (Frm.below (below_drewN (Below.refl _ _) (m + 1)) hfr hsz (fun g hg => by cases hg)); obtain ⟨A7, c7, rfl⟩ := own_slice' hown; have B7 := H.out.below HB7.out; have c1 := B7.cell 1; have f1 := B7.free 1; simp only [gA, gZ, gC] at c1; clear hown hfr hat B7)
 (try go_wp2_with fail)
 go_ret
 have hgl := H.out.lt
 have hl : ((bl.drop t).take (u - t)).length = u - t := by rw [List.length_take, List.length_drop]; have := HU.out; omega
 refine ⟨_, (bl.drop t).take (u - t), w7, rfl, ⟨?_, fun x hx => HB.out.byt x (List.mem_of_mem_drop (List.mem_of_mem_take hx))⟩, by rw [hl]; have := HU.out; omega, HB7.out, by rw [hl]; have := HU.out; congr 3; omega⟩
 rw [hl, show u8s ((bl.drop t).take (u - t)) = ((u8s bl).drop t).take (u - t) by simp [u8s, List.map_take, List.map_drop]]
 exact own_frm HO.out ((Frm.refl (· = g) w7).setg (i := 1) _) (fun j hj e => by have := (HO.out.lt j hj).1; omega)
end
theorem newinbox_any (n : Int) (w : World) : Calls Tryz.prog 55 #[.int .i64 n] w fun e w' => ∃ g wi, e = .returned (.pointer (some ⟨g, 0, none⟩)) ∧ w.heap.size ≤ g ∧ 1 ≤ wi ∧ wi ≤ 400 ∧ IbC w' g wi 0 (-1) (.slice none 0 0) (.slice none 0 0) ∧ Below w.heap.size w w' := by
 go_enter Tryz.func55, Tryz.ntmps55
 go_wp2_with fail
 refine (clamp_any _ _ _ _).mono ?_
 rintro e _ ⟨rfl, rfl⟩
 obtain ⟨z, hz⟩ := lx (mn (mx n 1) 400)
 have hz2 : 1 ≤ z ∧ z ≤ 400 := by rw [hz]; unfold mn mx; split <;> split <;> omega
 rw [← hz]
 clear hz
 go_wp2_with fail
 go_ret
 exact ⟨_, z, rfl, Nat.le_refl _, hz2.1, hz2.2, Blk.new _ _ _, ba⟩
end
end Go.Proofs.YtdneakejlbabeaaGreat
