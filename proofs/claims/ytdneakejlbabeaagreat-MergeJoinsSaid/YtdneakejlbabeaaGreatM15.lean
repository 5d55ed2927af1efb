/- Parts of the walk: Df, Ei, Dj, Dl, Dm, Dn. -/
import Derived.Test.YtdneakejlbabeaaGreatM00
import Derived.Test.YtdneakejlbabeaaGreatM04
import Derived.Test.YtdneakejlbabeaaGreatM12
import Derived.Test.YtdneakejlbabeaaGreatM03
import Derived.StillTailTactics
import Derived.Deep.RegionHeld3
import Derived.Test.YtdneakejlbabeaaGreatM05
namespace Go.Proofs.YtdneakejlbabeaaGreat
open Go.RowKit
set_option linter.unusedVariables false
set_option linter.unusedSimpArgs false
section
attribute [local go_sem] run_max2' run_min2' run_max_ run_min_
def addGo : List (Int × Int) → Int → Int → Bool → List (Int × Int) → List (Int × Int)
 | [], p, q, d, out => if d then out else out ++ [(p, q)]
 | r :: rs, p, q, d, out => if r.2 < p then addGo rs p q d (out ++ [r]) else if q < r.1 then addGo rs p q true ((if d then out else out ++ [(p, q)]) ++ [r]) else addGo rs (mn p r.1) (mx q r.2) d out
def setAdd (f t : Int) (rs : List (Int × Int)) : List (Int × Int) := if mx f 0 < mn t 1099511627776 then addGo rs (mx f 0) (mn t 1099511627776) false [] else rs
set_option maxHeartbeats 8000000 in
set_option maxRecDepth 100000 in
theorem setadd_any (w : World) (gs k : Nat) (v : Value) (rs : List (Int × Int)) (f t : Int) (hc : w.cell? ⟨gs, k, none⟩ = some v) (hf : w.frozen? ⟨gs, k, none⟩ = false) (hr : RR w v rs) (hl : rs.length ≤ 100000000) :
  Calls Tryz.prog 104 #[.pointer (some ⟨gs, k, none⟩), .int .i64 f, .int .i64 t] w fun e w' => SetR w gs k v (setAdd f t rs) e w' := by
 obtain ⟨A, c, rfl, _, _⟩ := hr.len
 have H := hid hr
 have HI := hid Tryz.info171
 have hgs := World.block_lt_of_cell? w _ hc
 simp only at hgs
 clear hr
 obtain ⟨x, hx⟩ : ∃ x, mx f 0 = x := ⟨_, rfl⟩
 obtain ⟨y, hy⟩ : ∃ y, mn t 1099511627776 = y := ⟨_, rfl⟩
 unfold setAdd
 rw [hx, hy]
 have HX := hid hx
 have HY := hid hy
 clear hx hy
 by_cases hxy : x < y
 ·rw [if_pos hxy]
  obtain ⟨res, hres⟩ : ∃ r, addGo rs x y false [] = r := ⟨_, rfl⟩
  rw [hres]
  have HRES := hid hres
  clear hres
  go_enter Tryz.func104, Tryz.ntmps104
  go_wp2_with fail
  refine (clip_any f t w).mono ?_
  rintro e _ ⟨rfl, rfl⟩
  rw [HX.out, HY.out, decide_eq_true hxy]
  go_wp2_with fail
  go_loopw [1, 2, 7, 8, 25] (fun vp vq o vd i wr => ∃ (j : Nat) (p q : Int) (d : Bool) (ls : List (Int × Int)), j ≤ rs.length ∧ i = .int .i64 j ∧ vp = .int .i64 p ∧ vq = .int .i64 q ∧ vd = .bool d ∧ OR w.heap.size wr o ls ∧ ls.length ≤ 2 * j ∧ addGo (rs.drop j) p q d ls = res ∧ Below w.heap.size w wr) (fun _ _ _ _ i _ => rs.length - (intOf i).toNat)
  case atStart => exact ⟨0, x, y, false, [], Nat.zero_le _, rfl, rfl, rfl, rfl, World.ownsRow_nil _ _ _ _, by simp, HRES.out, Below.refl _ _⟩
  case round =>
   obtain ⟨j, p, q, d, ls, hj, rfl, rfl, rfl, rfl, hor, hls, hgo, hb⟩ := hrel
   have HO := hid hor
   have BR := hid hb
   have HG := hid hgo
   have sr : w.heap.size ≤ wr.heap.size := hb.size
   obtain ⟨A0, c0, rfl⟩ := own_slice' hor
   clear hor hb hgo
   by_cases hjl : j < rs.length
   ·have j0 : (0 : Int) ≤ (j : Int) := by omega
    have j1 : (j : Int) < (rs.length : Int) := by omega
    have iwj : IntKind.i64.wrap ((j : Int) + 1) = (j : Int) + 1 := iX
    obtain ⟨ad, rfl, d0, d1⟩ := RR.at_ (H.out.below BR.out) hjl
    obtain ⟨r, hr⟩ : ∃ r, rs[j] = r := ⟨_, rfl⟩
    have HT : Hid (addGo (rs.drop j) p q d ls = (if r.2 < p then addGo (rs.drop (j + 1)) p q d (ls ++ [r]) else if q < r.1 then addGo (rs.drop (j + 1)) p q true ((if d then ls else ls ++ [(p, q)]) ++ [r]) else addGo (rs.drop (j + 1)) (mn p r.1) (mx q r.2) d ls)) := hid (by rw [List.drop_eq_getElem_cons hjl, hr]; rfl)
    rw [hr] at d0 d1
    obtain ⟨a, b⟩ := r
    simp only at d0 d1
    clear hr
    have O1 : Hid (OR w.heap.size (wr.alloc (.cells #[.int .i64 a, .int .i64 b] 171)) (.slice A0 ls.length c0) ls) := hid (HO.out.alloc _)
    have B1 : Hid (Below w.heap.size w (wr.alloc (.cells #[.int .i64 a, .int .i64 b] 171))) := hid (BR.out.alloc sr _)
    have s1 : w.heap.size ≤ (wr.alloc (.cells #[.int .i64 a, .int .i64 b] 171)).heap.size := B1.out.size
    have E1 : Hid (Blk (wr.alloc (.cells #[.int .i64 a, .int .i64 b] 171)) wr.heap.size #[.int .i64 a, .int .i64 b] 171) := hid (Blk.new _ _ _)
    have m0 := E1.out.cell 0
    have m1 := E1.out.cell 1
    simp only [gA, gZ, gC] at m0 m1
    by_cases h1 : b < p
    ·go_wp2_with (at_builtin; refine wp_app w.heap.size rfl _ _ 68 171 _ 2 16 rfl Tryz.underlying68 HI.out rfl (by omega) (by omega) rfl rfl ((O1.out).alloc _) (Sl.boxk (wr.alloc (.cells #[.int .i64 a, .int .i64 b] 171)) 171 2 [.int .i64 a, .int .i64 b] _ (by simp) rfl (by simp [Value.oneCell'])) (by first | omega | (simp only [List.length_append, List.length_cons, List.length_nil]; omega)) (Nat.le_trans s1 (by simp)) ?_; intro v7 w7 hown hfr hat; have O7 := hid (OR.push (rs := ls) hown); have B7 := hid (Frm.below ((B1.out).alloc s1 _) hfr (Nat.le_trans s1 (by simp)) (fun g hg => ((O1.out).lt g hg).1)); have s7 : w.heap.size ≤ w7.heap.size := B7.out.size; obtain ⟨A7, c7, rfl⟩ := own_slice' hown; clear hown hfr hat)
     (try go_wp2_with fail)
     go_roundw
     case rel => exact ⟨j + 1, p, q, d, _, hjl, by go_num, rfl, rfl, rfl, O7.out, by simp; omega, by rw [← HG.out, HT.out]; (try simp only); rw [if_pos h1], B7.out⟩
     case measure => simp [intOf]; omega
    ·by_cases h2 : q < a
     ·cases d
      ·go_wp2_with (first
        | (at_builtin; refine wp_app w.heap.size rfl _ _ 68 171 _ 2 16 rfl Tryz.underlying68 HI.out rfl (by omega) (by omega) rfl rfl ((O1.out).alloc _) (Sl.boxk (wr.alloc (.cells #[.int .i64 a, .int .i64 b] 171)) 171 2 [.int .i64 p, .int .i64 q] _ (by simp) rfl (by simp [Value.oneCell'])) (by first | omega | (simp only [List.length_append, List.length_cons, List.length_nil]; omega)) (Nat.le_trans s1 (by simp)) ?_; intro v7 w7 hown hfr hat; have O7 := hid (OR.push (rs := ls) hown); have B7 := hid (Frm.below ((B1.out).alloc s1 _) hfr (Nat.le_trans s1 (by simp)) (fun g hg => ((O1.out).lt g hg).1)); have s7 : w.heap.size ≤ w7.heap.size := B7.out.size; have eb := (E1.out.alloc _).frm hfr (fun hg => by have := (HO.out.lt _ hg).2; omega); have eb0 := eb.cell 0; have eb1 := eb.cell 1; simp only [gA, gZ, gC] at eb0 eb1; clear eb; obtain ⟨A7, c7, rfl⟩ := own_slice' hown; clear hown hfr hat)
        | (at_builtin; refine wp_app w.heap.size rfl _ _ 68 171 _ 2 16 rfl Tryz.underlying68 HI.out rfl (by omega) (by omega) rfl rfl ((O7.out).alloc _) (Sl.boxk w7 171 2 [.int .i64 a, .int .i64 b] _ (by simp) rfl (by simp [Value.oneCell'])) (by first | omega | (simp only [List.length_append, List.length_cons, List.length_nil]; omega)) (Nat.le_trans s7 (by simp)) ?_; intro v8 w8 hown hfr hat; have O8 := hid (OR.push (rs := (ls ++ [(p, q)])) hown); have B8 := hid (Frm.below ((B7.out).alloc s7 _) hfr (Nat.le_trans s7 (by simp)) (fun g hg => ((O7.out).lt g hg).1)); have s8 : w.heap.size ≤ w8.heap.size := B8.out.size; obtain ⟨A8, c8, rfl⟩ := own_slice' hown; clear hown hfr hat))
       (try go_wp2_with fail)
       go_roundw
       case rel => exact ⟨j + 1, p, q, true, _, hjl, by go_num, rfl, rfl, rfl, (by have h8 := O8.out; rw [show (ls ++ [(p, q)]).length + 1 = ls.length + 1 + 1 by simp] at h8; exact h8), by simp; omega, by rw [← HG.out, HT.out]; (try simp only); rw [if_neg h1, if_pos h2]; rfl, B8.out⟩
       case measure => simp [intOf]; omega
      ·go_wp2_with (at_builtin; refine wp_app w.heap.size rfl _ _ 68 171 _ 2 16 rfl Tryz.underlying68 HI.out rfl (by omega) (by omega) rfl rfl ((O1.out).alloc _) (Sl.boxk (wr.alloc (.cells #[.int .i64 a, .int .i64 b] 171)) 171 2 [.int .i64 a, .int .i64 b] _ (by simp) rfl (by simp [Value.oneCell'])) (by first | omega | (simp only [List.length_append, List.length_cons, List.length_nil]; omega)) (Nat.le_trans s1 (by simp)) ?_; intro v7 w7 hown hfr hat; have O7 := hid (OR.push (rs := ls) hown); have B7 := hid (Frm.below ((B1.out).alloc s1 _) hfr (Nat.le_trans s1 (by simp)) (fun g hg => ((O1.out).lt g hg).1)); have s7 : w.heap.size ≤ w7.heap.size := B7.out.size; obtain ⟨A7, c7, rfl⟩ := own_slice' hown; clear hown hfr hat)
       (try go_wp2_with fail)
       go_roundw
       case rel => exact ⟨j + 1, p, q, true, _, hjl, by go_num, rfl, rfl, rfl, O7.out, by simp; omega, by rw [← HG.out, HT.out]; (try simp only); rw [if_neg h1, if_pos h2]; rfl, B7.out⟩
       case measure => simp [intOf]; omega
     ·go_wp2_with fail
      go_quiet (fail)
      go_wp2_with fail
      go_roundw
      case rel => exact ⟨j + 1, mn p a, mx q b, d, ls, hjl, by go_num, rfl, rfl, rfl, O1.out, by omega, by rw [← HG.out, HT.out]; (try simp only); rw [if_neg (show ¬ b < p by omega), if_neg (show ¬ q < a by omega)], below_drewN B1.out _⟩
      case measure => simp [intOf]; omega
   ·have j1 : ¬ (j : Int) < (rs.length : Int) := by omega
    obtain rfl : j = rs.length := by omega
    have hg := HG.out
    rw [List.drop_length] at hg
    cases d
    ·have e2 : ls ++ [(p, q)] = res := hg
     go_wp2_with (at_builtin; refine wp_app w.heap.size rfl _ _ 68 171 _ 2 16 rfl Tryz.underlying68 HI.out rfl (by omega) (by omega) rfl rfl ((HO.out).alloc _) (Sl.boxk wr 171 2 [.int .i64 p, .int .i64 q] _ (by simp) rfl (by simp [Value.oneCell'])) (by first | omega | (simp only [List.length_append, List.length_cons, List.length_nil]; omega)) (Nat.le_trans sr (by simp)) ?_; intro v7 w7 hown hfr hat; have O7 := hid (OR.push (rs := ls) hown); have B7 := hid (Frm.below ((BR.out).alloc sr _) hfr (Nat.le_trans sr (by simp)) (fun g hg => ((HO.out).lt g hg).1)); have s7 : w.heap.size ≤ w7.heap.size := B7.out.size; have cr := (B7.out.cell (p := ⟨gs, k, none⟩) hgs).trans hc; have fr := (B7.out.frozen (p := ⟨gs, k, none⟩) hgs).trans hf; obtain ⟨A7, c7, rfl⟩ := own_slice' hown; clear hown hfr hat)
     (try go_wp2_with fail)
     have hlt := O7.out.lt
     go_end0
     exact ⟨rfl, _, ⟨w7, B7.out, .inl rfl⟩, (by have h7 : RR w7 _ (ls ++ [(p, q)]) := O7.out.rr; rw [e2] at h7; exact h7.frm ((Frm.refl (· = gs) w7).setCell (.inl rfl) _) (fun j hj e => by have := (hlt j hj).1; omega)), .inr (fun j hj => ⟨(hlt j hj).1, Nat.lt_of_lt_of_le (hlt j hj).2 ((Frm.refl (· = gs) w7).setCell (p := ⟨gs, k, none⟩) (.inl rfl) _).size⟩)⟩
    ·have e2 : ls = res := hg
     subst e2
     have hlt := HO.out.lt
     have cr := (BR.out.cell (p := ⟨gs, k, none⟩) hgs).trans hc
     have fr := (BR.out.frozen (p := ⟨gs, k, none⟩) hgs).trans hf
     go_wp2_with fail
     go_end0
     exact ⟨rfl, _, ⟨wr, BR.out, .inl rfl⟩, HO.out.rr.frm ((Frm.refl (· = gs) wr).setCell (.inl rfl) _) (fun j hj e => by have := (hlt j hj).1; omega), .inr (fun j hj => ⟨(hlt j hj).1, Nat.lt_of_lt_of_le (hlt j hj).2 ((Frm.refl (· = gs) wr).setCell (p := ⟨gs, k, none⟩) (.inl rfl) _).size⟩)⟩
 ·rw [if_neg hxy]
  go_enter Tryz.func104, Tryz.ntmps104
  go_wp2_with fail
  refine (clip_any f t w).mono ?_
  rintro e _ ⟨rfl, rfl⟩
  rw [HX.out, HY.out, decide_eq_false (by omega)]
  go_wp2_with fail
  refine bodyPost_ret (results_none rfl _ _ _) rfl ?_
  exact ⟨rfl, _, ⟨w, Below.refl _ _, .inr ⟨rfl, hc⟩⟩, H.out, .inl rfl⟩
end

section
theorem mn_le_l (a b : Int) : mn a b ≤ a := by unfold mn; split <;> omega
theorem mn_le_r (a b : Int) : mn a b ≤ b := by unfold mn; split <;> omega
theorem le_mx_l (a b : Int) : a ≤ mx a b := by unfold mx; split <;> omega
theorem le_mx_r (a b : Int) : b ≤ mx a b := by unfold mx; split <;> omega
theorem le_mn {a b c : Int} (h : c ≤ a) (k : c ≤ b) : c ≤ mn a b := by unfold mn; split <;> omega
theorem mx_le {a b c : Int} (h : a ≤ c) (k : b ≤ c) : mx a b ≤ c := by unfold mx; split <;> omega
/-- Ranges that rise. -/
structure Srt (rs : List (Int × Int)) : Prop where
 a : ∀ r ∈ rs, 0 ≤ r.1 ∧ r.1 ≤ r.2
 p : rs.Pairwise (fun a b => a.1 ≤ b.1)
theorem Srt.nil : Srt [] := ⟨(fun r h => absurd h (by simp)), List.Pairwise.nil⟩
theorem addGo_o : ∀ (rs : List (Int × Int)) (p q : Int) (d : Bool) (out : List (Int × Int)), Srt (out ++ rs) → 0 ≤ p → p ≤ q → (d = false → ∀ x ∈ out, x.1 ≤ p) → (d = true → ∀ r ∈ rs, q < r.1) →
  Srt (addGo rs p q d out) ∧ (addGo rs p q d out).length ≤ out.length + rs.length + (if d then 0 else 1) ∧ (∀ M : Int, (∀ r ∈ out ++ rs, r.2 ≤ M) → q ≤ M → ∀ r ∈ addGo rs p q d out, r.2 ≤ M)
 | [], p, q, d, out, hs, h0, hpq, h1, h2 => by
  rw [List.append_nil] at hs
  cases d
  ·simp only [addGo, Bool.false_eq_true, if_false]
   refine ⟨⟨fun r hr => ?_, ?_⟩, by simp, fun M hM hq r hr => ?_⟩
   ·rcases List.mem_append.1 hr with h | h
    ·exact hs.a r h
    ·rw [List.mem_singleton] at h; subst h; exact ⟨h0, hpq⟩
   ·refine List.pairwise_append.2 ⟨hs.p, List.pairwise_singleton _ _, fun a ha b hb => ?_⟩
    rw [List.mem_singleton] at hb
    subst hb
    exact h1 rfl a ha
   ·rcases List.mem_append.1 hr with h | h
    ·exact hM r (by simpa using h)
    ·rw [List.mem_singleton] at h; subst h; exact hq
  ·simp only [addGo, if_true]
   exact ⟨hs, by simp, fun M hM _ r hr => hM r (by simpa using hr)⟩
 | r :: rs, p, q, d, out, hs, h0, hpq, h1, h2 => by
  have hr := hs.a r (by simp)
  have hp := List.pairwise_append.1 hs.p
  have hp2 := List.pairwise_cons.1 hp.2.1
  have e1 : out ++ r :: rs = (out ++ [r]) ++ rs := by simp
  unfold addGo
  by_cases c1 : r.2 < p
  ·rw [if_pos c1]
   obtain ⟨g1, g2, g3⟩ := addGo_o rs p q d (out ++ [r]) (by rw [← e1]; exact hs) h0 hpq (fun hd x hx => by
    rcases List.mem_append.1 hx with h | h
    ·exact h1 hd x h
    ·rw [List.mem_singleton] at h; subst h; omega) (fun hd x hx => h2 hd x (by simp [hx]))
   exact ⟨g1, by simp only [List.length_append, List.length_cons, List.length_nil] at g2 ⊢; omega, fun M hM hq => g3 M (by rw [← e1]; exact hM) hq⟩
  ·rw [if_neg c1]
   by_cases c2 : q < r.1
   ·rw [if_pos c2]
    have hall : ∀ x ∈ rs, q < x.1 := fun x hx => by have := hp2.1 x hx; omega
    have hs' : Srt (((if d then out else out ++ [(p, q)]) ++ [r]) ++ rs) := by
     cases d
     ·simp only [Bool.false_eq_true, if_false]
      refine ⟨fun x hx => ?_, ?_⟩
      ·simp only [List.mem_append, List.mem_singleton] at hx
       rcases hx with ((h | h) | h) | h
       ·exact hs.a x (by simp [h])
       ·subst h; exact ⟨h0, hpq⟩
       ·subst h; exact hr
       ·exact hs.a x (by simp [h])
      ·rw [List.append_assoc, List.append_assoc]
       refine List.pairwise_append.2 ⟨hp.1, ?_, fun a ha b hb => ?_⟩
       ·refine List.pairwise_append.2 ⟨List.pairwise_singleton _ _, ?_, fun a ha b hb => ?_⟩
        ·simpa using hp.2.1
        ·rw [List.mem_singleton] at ha
         subst ha
         simp only [List.mem_append, List.mem_singleton] at hb
         rcases hb with h | h
         ·subst h; simp only; omega
         ·have := hall b h; simp only; omega
       ·simp only [List.mem_append, List.mem_singleton] at hb
        rcases hb with h | h | h
        ·subst h; exact h1 rfl a ha
        ·subst h; exact hp.2.2 a ha _ (by simp)
        ·exact hp.2.2 a ha _ (by simp [h])
     ·simp only [if_true]
      rw [← e1]
      exact hs
    obtain ⟨g1, g2, g3⟩ := addGo_o rs p q true ((if d then out else out ++ [(p, q)]) ++ [r]) hs' h0 hpq (fun hd => by cases hd) (fun _ => hall)
    refine ⟨g1, ?_, fun M hM hq => g3 M (fun x hx => ?_) hq⟩
    ·simp only [if_true, List.length_append, List.length_cons, List.length_nil] at g2 ⊢
     cases d <;> simp at g2 ⊢ <;> omega
    ·simp only [List.mem_append, List.mem_singleton] at hx
     rcases hx with (h | h) | h
     ·cases d
      ·simp only [Bool.false_eq_true, if_false, List.mem_append, List.mem_singleton] at h
       rcases h with h | h
       ·exact hM x (by simp [h])
       ·subst h; exact hq
      ·exact hM x (by simp at h; simp [h])
     ·exact hM x (by simp [h])
     ·exact hM x (by simp [h])
   ·rw [if_neg c2]
    have hd : d = false := by
     cases d
     ·rfl
     ·exact absurd (h2 rfl r (by simp)) c2
    subst hd
    have hsub : Srt (out ++ rs) := ⟨fun x hx => hs.a x (by rcases List.mem_append.1 hx with h | h <;> simp [h]), List.pairwise_append.2 ⟨hp.1, hp2.2, fun a ha b hb => hp.2.2 a ha b (by simp [hb])⟩⟩
    obtain ⟨g1, g2, g3⟩ := addGo_o rs (mn p r.1) (mx q r.2) false out hsub (le_mn h0 hr.1) (by have := mn_le_l p r.1; have := le_mx_l q r.2; omega) (fun _ x hx => le_mn (h1 rfl x hx) (hp.2.2 x hx r (by simp))) (fun hd => by cases hd)
    refine ⟨g1, by simp only [List.length_cons] at g2 ⊢; omega, fun M hM hq => g3 M (fun x hx => hM x (by rcases List.mem_append.1 hx with h | h <;> simp [h])) (mx_le hq (hM r (by simp)))⟩
theorem addGo_head : ∀ (rs : List (Int × Int)) (p q : Int) (d : Bool) (x : Int × Int) (out : List (Int × Int)), ∃ t, addGo rs p q d (x :: out) = x :: t
 | [], p, q, d, x, out => by cases d <;> simp [addGo]
 | r :: rs, p, q, d, x, out => by
  unfold addGo
  split
  ·exact addGo_head rs _ _ _ x (out ++ [r])
  ·split
   ·cases d
    ·exact addGo_head rs p q true x (out ++ [(p, q)] ++ [r])
    ·exact addGo_head rs p q true x (out ++ [r])
   ·exact addGo_head rs _ _ _ x out
theorem addGo_zero : ∀ (rs : List (Int × Int)) (q : Int), (∀ r ∈ rs, 0 ≤ r.1 ∧ r.1 ≤ r.2) → 0 ≤ q → q ≤ frontL (addGo rs 0 q false [])
 | [], q, _, h => by simp [addGo, frontL]
 | r :: rs, q, h, hq => by
  have hr := h r (by simp)
  unfold addGo
  rw [if_neg (by omega)]
  split
  ·obtain ⟨t, ht⟩ := addGo_head rs 0 q true (0, q) [r]
   simp only [Bool.false_eq_true, if_false, List.nil_append, List.cons_append, ht, frontL, if_true, Int.le_refl]
  ·rw [show mn 0 r.1 = 0 by unfold mn; split <;> omega]
   have := addGo_zero rs (mx q r.2) (fun x hx => h x (by simp [hx])) (by have := le_mx_l q r.2; omega)
   have := le_mx_l q r.2
   omega
theorem frontL_nonneg {rs : List (Int × Int)} (h : ∀ r ∈ rs, 0 ≤ r.1 ∧ r.1 ≤ r.2) : 0 ≤ frontL rs := by
 cases rs with
 | nil => simp [frontL]
 | cons r rs => have := h r (by simp); simp only [frontL]; split <;> omega
theorem frontL_cons (r : Int × Int) (rs : List (Int × Int)) : frontL (r :: rs) = if r.1 = 0 then r.2 else 0 := rfl
theorem addGo_front {rs : List (Int × Int)} {p q : Int} (hs : Srt rs) (h0 : 0 ≤ p) (hpq : p ≤ q) : frontL rs ≤ frontL (addGo rs p q false []) := by
 have hpos := frontL_nonneg (addGo_o rs p q false [] hs h0 hpq (fun _ x hx => absurd hx (by simp)) (fun hd => by cases hd)).1.a
 cases rs with
 | nil => exact hpos
 | cons r rs =>
  have hr := hs.a r (by simp)
  rw [frontL_cons]
  by_cases c : r.1 = 0
  ·rw [if_pos c]
   unfold addGo
   split
   ·obtain ⟨t, ht⟩ := addGo_head rs p q false r []
    simp only [List.nil_append, ht, frontL_cons, if_pos c, Int.le_refl]
   ·split
    ·omega
    ·rw [show mn p r.1 = 0 by unfold mn; split <;> omega]
     have := addGo_zero rs (mx q r.2) (fun x hx => hs.a x (by simp [hx])) (by have := le_mx_l q r.2; omega)
     have := le_mx_r q r.2
     omega
  ·rw [if_neg c]
   exact hpos
structure AddO (rs rs' : List (Int × Int)) (t : Int) : Prop where
 s : Srt rs'
 len : rs'.length ≤ rs.length + 1
 front : frontL rs ≤ frontL rs'
 top : ∀ M : Int, (∀ r ∈ rs, r.2 ≤ M) → t ≤ M → ∀ r ∈ rs', r.2 ≤ M
theorem setAdd_o {rs : List (Int × Int)} (f t : Int) (hs : Srt rs) : AddO rs (setAdd f t rs) t := by
 unfold setAdd
 have h0 := le_mx_r f 0
 split
 ·rename_i hlt
  obtain ⟨g1, g2, g3⟩ := addGo_o rs (mx f 0) (mn t 1099511627776) false [] hs h0 (by omega) (fun _ x hx => absurd hx (by simp)) (fun hd => by cases hd)
  exact ⟨g1, by simpa using g2, addGo_front hs h0 (by omega), fun M hM ht => g3 M (by simpa using hM) (by have := mn_le_l t 1099511627776; omega)⟩
 ·exact ⟨hs, by omega, Int.le_refl _, fun M hM _ => hM⟩
structure CutO (rs rs' : List (Int × Int)) (t : Int) : Prop where
 s : Srt rs'
 len : rs'.length ≤ rs.length
 low : ∀ m : Int, (∀ r ∈ rs, m ≤ r.1) → ∀ r ∈ rs', m ≤ r.1
theorem cutAll_o : ∀ (f t : Int) (rs : List (Int × Int)), 0 ≤ t → Srt rs → (∀ r ∈ rs, f ≤ r.1) → CutO rs (cutAll f t rs) t ∧ ∀ r ∈ cutAll f t rs, t ≤ r.1
 | f, t, [], h0, hs, hf => ⟨⟨Srt.nil, Nat.le_refl _, fun m _ r hr => absurd hr (by simp [cutAll])⟩, fun r hr => absurd hr (by simp [cutAll])⟩
 | f, t, r :: rs, h0, hs, hf => by
  have hp := List.pairwise_cons.1 hs.p
  have hr := hs.a r (by simp)
  obtain ⟨⟨g1, g2, g3⟩, g4⟩ := cutAll_o f t rs h0 ⟨fun x hx => hs.a x (by simp [hx]), hp.2⟩ (fun x hx => hf x (by simp [hx]))
  have e : cutOne f t r = if t < r.2 then [(mx r.1 t, r.2)] else [] := by
   unfold cutOne
   rw [if_neg (by have := hf r (by simp); omega)]
   rfl
  simp only [cutAll, e]
  split
  ·rename_i hlt
   have k0 := le_mx_l r.1 t
   have hlow : ∀ x ∈ cutAll f t rs, mx r.1 t ≤ x.1 := fun x hx => mx_le (g3 r.1 (fun x hx => hp.1 x hx) x hx) (g4 x hx)
   refine ⟨⟨⟨fun x hx => ?_, ?_⟩, by simp only [List.length_append, List.length_cons, List.length_nil]; omega, fun m hm x hx => ?_⟩, fun x hx => ?_⟩
   ·rcases List.mem_append.1 hx with h | h
    ·rw [List.mem_singleton] at h; subst h; exact ⟨by simp only; omega, by simp only; exact mx_le hr.2 (by omega)⟩
    ·exact g1.a x h
   ·rw [List.singleton_append]
    exact List.pairwise_cons.2 ⟨hlow, g1.p⟩
   ·rcases List.mem_append.1 hx with h | h
    ·rw [List.mem_singleton] at h; subst h; have := hm r (by simp); simp only; omega
    ·exact g3 m (fun y hy => hm y (by simp [hy])) x h
   ·rcases List.mem_append.1 hx with h | h
    ·rw [List.mem_singleton] at h; subst h; exact le_mx_r _ _
    ·exact g4 x h
  ·exact ⟨⟨g1, by simp only [List.nil_append, List.length_cons]; omega, fun m hm => g3 m (fun y hy => hm y (by simp [hy]))⟩, g4⟩
theorem setCut_o {rs : List (Int × Int)} (f t : Int) (hs : Srt rs) (hf : ∀ r ∈ rs, f ≤ r.1) : Srt (setCut f t rs) ∧ (setCut f t rs).length ≤ rs.length := by
 unfold setCut
 have h0 := le_mx_r f 0
 split
 ·rename_i hlt
  obtain ⟨h, _⟩ := cutAll_o (mx f 0) (mn t 1099511627776) rs (by omega) hs (fun r hr => mx_le (hf r hr) (hs.a r hr).1)
  exact ⟨h.s, h.len⟩
 ·exact ⟨hs, Nat.le_refl _⟩
theorem Srt.head {r : Int × Int} {rs : List (Int × Int)} (h : Srt (r :: rs)) : ∀ x ∈ r :: rs, r.1 ≤ x.1 := fun x hx => by
 rcases List.mem_cons.1 hx with h1 | h1
 ·subst h1; exact Int.le_refl _
 ·exact (List.pairwise_cons.1 h.p).1 x h1
end

section
attribute [local go_sem] run_max2' run_min2' run_max_ run_min_
abbrev ObC (w : World) (g : Nat) (bu ac : Int) (A : Option Addr) (n c : Nat) (cl : Bool) : Prop := Blk w g #[.int .i64 bu, .int .i64 ac, .slice A n c, .bool cl] 133
def placesN (n : Nat) (cl : Bool) : Nat := if cl then n + 1 else n
theorem places_any (w : World) (g : Nat) (bu ac : Int) (A : Option Addr) (n c : Nat) (cl : Bool) (h : ObC w g bu ac A n c cl) (hn : n ≤ 100000000) :
  Calls Tryz.prog 63 #[.pointer (some ⟨g, 0, none⟩)] w fun e w' => e = .returned (.int .i64 (placesN n cl : Nat)) ∧ w = w' := by
 have c2 := h.cell 2
 have c3 := h.cell 3
 simp at c2 c3
 have iw : IntKind.i64.wrap ((n : Int) + 1) = (n : Int) + 1 := iX
 clear h
 cases cl
 ·go_enter Tryz.func63, Tryz.ntmps63
  go_wp2
  go_ret
  exact ⟨rfl, rfl⟩
 ·go_enter Tryz.func63, Tryz.ntmps63
  go_wp2
  go_ret
  exact ⟨rfl, rfl⟩
def openN (n : Nat) (cl : Bool) (limit : Int) : Int := if (n : Int) ≤ limit then (placesN n cl : Nat) else mx limit 0
theorem oopen_any (w : World) (g : Nat) (bu ac : Int) (A : Option Addr) (n c : Nat) (cl : Bool) (limit : Int) (h : ObC w g bu ac A n c cl) (hn : n ≤ 100000000) :
  Calls Tryz.prog 110 #[.pointer (some ⟨g, 0, none⟩), .int .i64 limit] w fun e w' => e = .returned (.int .i64 (openN n cl limit)) ∧ w = w' := by
 have c2 := h.cell 2
 simp at c2
 have H := hid h
 clear h
 by_cases hl : (n : Int) ≤ limit
 ·have e : openN n cl limit = (placesN n cl : Nat) := if_pos hl
  rw [e]
  go_enter Tryz.func110, Tryz.ntmps110
  go_wp2_with fail
  refine (places_any w g bu ac A n c cl H.out hn).mono ?_
  rintro e _ ⟨rfl, rfl⟩
  go_wp2_with fail
  go_ret
  exact ⟨rfl, rfl⟩
 ·have e : openN n cl limit = mx limit 0 := if_neg hl
  rw [e]
  go_enter Tryz.func110, Tryz.ntmps110
  go_wp2_with fail
  go_ret
  exact ⟨rfl, rfl⟩
theorem oack_any (w : World) (g : Nat) (bu ac : Int) (A : Option Addr) (n c : Nat) (cl : Bool) (seen : Int) (h : ObC w g bu ac A n c cl) (hn : n ≤ 100000000) :
  Calls Tryz.prog 78 #[.pointer (some ⟨g, 0, none⟩), .int .i64 seen] w fun e w' => ∃ b ac', e = .returned (.bool b) ∧ ObC w' g bu ac' A n c cl ∧ Frm (· = g) w w' ∧ ((ac' = ac) ∨ (0 ≤ seen ∧ seen ≤ (placesN n cl : Nat) ∧ ac' = mx ac seen)) := by
 have c1 := h.cell 1
 have f1 := h.free 1
 simp at c1
 have H := hid h
 clear h
 obtain ⟨p, hp⟩ : ∃ p, placesN n cl = p := ⟨_, rfl⟩
 by_cases h0 : seen < 0
 ·go_enter Tryz.func78, Tryz.ntmps78
  go_wp2_with fail
  go_ret
  exact ⟨false, ac, rfl, H.out, Frm.refl _ _, .inl rfl⟩
 ·by_cases h1 : (p : Int) < seen
  ·go_enter Tryz.func78, Tryz.ntmps78
   go_wp2_with fail
   refine (places_any w g bu ac A n c cl H.out hn).mono ?_
   rintro e _ ⟨rfl, rfl⟩
   rw [hp]
   go_wp2_with fail
   go_ret
   exact ⟨false, ac, rfl, H.out, Frm.refl _ _, .inl rfl⟩
  ·go_enter Tryz.func78, Tryz.ntmps78
   go_wp2_with fail
   refine (places_any w g bu ac A n c cl H.out hn).mono ?_
   rintro e _ ⟨rfl, rfl⟩
   rw [hp]
   go_wp2_with fail
   go_ret
   refine ⟨true, mx ac seen, rfl, ?_, (Frm.refl _ _).setg _, .inr ⟨by omega, by omega, rfl⟩⟩
   have := H.out.set 1 (.int .i64 (mx ac seen))
   simpa using this
theorem newoutbox_any (n : Int) (w : World) : Calls Tryz.prog 54 #[.int .i64 n] w fun e w' => ∃ g bu, e = .returned (.pointer (some ⟨g, 0, none⟩)) ∧ w.heap.size ≤ g ∧ 1 ≤ bu ∧ bu ≤ 400 ∧ ObC w' g bu 0 none 0 0 false ∧ Below w.heap.size w w' := by
 go_enter Tryz.func54, Tryz.ntmps54
 go_wp2_with fail
 refine (clamp_any _ _ _ _).mono ?_
 rintro e _ ⟨rfl, rfl⟩
 obtain ⟨z, hz⟩ := lx (mn (mx n 1) 400)
 have hz2 : 1 ≤ z ∧ z ≤ 400 := by rw [hz]; unfold mn mx; split <;> split <;> omega
 rw [← hz]
 clear hz
 go_wp2_with fail
 go_ret
 exact ⟨_, z, rfl, Nat.le_refl _, hz2.1, hz2.2, Blk.new _ _ _, ba⟩
end

section
attribute [local go_sem] run_max2' run_min2' run_max_ run_min_
set_option maxHeartbeats 4000000 in
set_option maxRecDepth 100000 in
theorem wack_any (g : Nat) (w : World) (h : WOk w g) : Calls Tryz.prog 108 #[.pointer (some ⟨g, 0, none⟩)] w fun e w' => e = .returned (.tuple #[]) ∧ WOk w' g ∧ Frm (· = g) w w' := by
 have H := hid h
 obtain ⟨m, s, t, c, hb⟩ := h
 have c0 := hb.cell 0
 have c1 := hb.cell 1
 have c2 := hb.cell 2
 have c3 := hb.cell 3
 have f1 := hb.free 1
 have f3 := hb.free 3
 simp at c0 c1 c2 c3
 clear hb
 obtain ⟨y, hy⟩ : ∃ y, IntKind.i64.wrap (c + 1) = y := ⟨_, rfl⟩
 obtain ⟨z, hz⟩ : ∃ z, IntKind.i64.wrap (s + 1) = z := ⟨_, rfl⟩
 by_cases h1 : s < t
 ·go_enter Tryz.func108, Tryz.ntmps108
  go_wp2_with fail
  go_quiet (fail)
  go_wp2_with fail
  refine wp_region_still_tail (id := 1) 13 (by kernel_rfl) (by kernel_rfl) ?_
  change wpStill _ _ (World.drew _) (fun a' => wpList _ _ _ _ a' (World.drew _)) _ _
  simp only [List.take_succ_cons, List.take_zero, List.drop_succ_cons, List.drop_zero]
  repeat still_step
  refine wpStill_nil ?_
  go_wp2_with fail
  refine bodyPost_ret (results_none rfl _ _ _) rfl ?_
  exact ⟨rfl, by repeat (first | with_reducible exact H.out | with_reducible apply WOk.drewN | with_reducible apply WOk.drew | with_reducible apply WOk.s1 | with_reducible apply WOk.s3), by repeat (first | with_reducible exact Frm.refl _ _ | with_reducible apply Frm.setg | with_reducible apply Frm.drewN | with_reducible apply Frm.drew)⟩
 ·by_cases h2 : s ≤ y
  ·go_enter Tryz.func108, Tryz.ntmps108
   go_wp2_with fail
   go_quiet (fail)
   go_wp2_with fail
   go_quiet (fail)
   go_wp2_with fail
   go_region
   all_goals
    go_wp2_with fail
    go_end0
    exact ⟨rfl, by repeat (first | with_reducible exact H.out | with_reducible apply WOk.drewN | with_reducible apply WOk.drew | with_reducible apply WOk.s1 | with_reducible apply WOk.s3), by repeat (first | with_reducible exact Frm.refl _ _ | with_reducible apply Frm.setg | with_reducible apply Frm.drewN | with_reducible apply Frm.drew)⟩
  ·go_enter Tryz.func108, Tryz.ntmps108
   go_wp2_with fail
   go_quiet (fail)
   go_wp2_with fail
   go_quiet (fail)
   go_wp2_with fail
   go_end0
   exact ⟨rfl, by repeat (first | with_reducible exact H.out | with_reducible apply WOk.drewN | with_reducible apply WOk.drew | with_reducible apply WOk.s1 | with_reducible apply WOk.s3), by repeat (first | with_reducible exact Frm.refl _ _ | with_reducible apply Frm.setg | with_reducible apply Frm.drewN | with_reducible apply Frm.drew)⟩
end

section
attribute [local go_sem] run_max2' run_min2' run_max_ run_min_
def WaitR (w : World) (e : Ending) (w' : World) : Prop := ∃ z, e = .returned (.int .i64 z) ∧ Below w.heap.size w w'
set_option maxHeartbeats 4000000 in
set_option maxRecDepth 100000 in
theorem wait_any (g : Nat) (w : World) (h : GOk w g) : Calls Tryz.prog 87 #[.pointer (some ⟨g, 0, none⟩)] w fun e w' => WaitR w e w' := by
 obtain ⟨a, b, c, d, s, hb, hd0, hd1, hm0, hm1⟩ := h
 have H := hid hb
 have c0 := hb.cell 0
 have c1 := hb.cell 1
 have c2 := hb.cell 2
 have c4 := hb.cell 4
 simp at c0 c1 c2 c4
 clear hb hm0 hm1
 obtain ⟨y, hy⟩ : ∃ y, IntKind.i64.wrap (4 * c) = y := ⟨_, rfl⟩
 obtain ⟨x, hx⟩ : ∃ x, IntKind.i64.wrap (b + mx 1 y) = x := ⟨_, rfl⟩
 obtain ⟨u, hu⟩ : ∃ u, mn (mx x 1) 64 = u := ⟨_, rfl⟩
 have HU := hid hu
 clear hu
 go_enter Tryz.func87, Tryz.ntmps87
 cases s
 ·go_wp2_with fail
  go_loopw [3, 4] (fun v i wr => ∃ (k : Nat) (z : Int), (k : Int) ≤ d ∧ i = .int .i64 k ∧ v = .int .i64 z ∧ Below w.heap.size w wr) (fun _ i _ => 6 - (intOf i).toNat)
  case atStart => exact ⟨0, _, by omega, rfl, rfl, Below.refl _ _⟩
  case round =>
   obtain ⟨k, z, hk, rfl, rfl, hb⟩ := hrel
   have BR := hid hb
   have c3 := (H.out.below hb).cell 3
   simp only [gA, gZ, gC] at c3
   have iwk : IntKind.i64.wrap ((k : Int) + 1) = (k : Int) + 1 := iX
   clear hb
   by_cases hkd : (k : Int) < d
   ·go_wp2_with fail
    go_roundw
    case rel => exact ⟨k + 1, _, by omega, by go_num, rfl, BR.out⟩
    case measure => simp [intOf]; omega
   ·go_wp2_with fail
    go_ret
    exact ⟨_, rfl, BR.out⟩
 ·go_wp2_with fail
  refine wp_region_still_tail (id := 3) 11 (by kernel_rfl) (by kernel_rfl) ?_
  change wpStill _ _ (World.drew _) (fun a' => wpList _ _ _ _ a' (World.drew _)) _ _
  simp only [List.take_succ_cons, List.take_zero, List.drop_succ_cons, List.drop_zero]
  repeat still_step
  refine wpStill_nil ?_
  go_wp2_with fail
  refine (clamp_any _ _ _ _).mono ?_
  rintro e _ ⟨rfl, rfl⟩
  go_wp2_with fail
  go_loopw [3, 4] (fun v i wr => ∃ (k : Nat) (z : Int), (k : Int) ≤ d ∧ i = .int .i64 k ∧ v = .int .i64 z ∧ Below w.heap.size w wr) (fun _ i _ => 6 - (intOf i).toNat)
  case atStart => exact ⟨0, _, by omega, rfl, rfl, (Below.refl _ _).drew⟩
  case round =>
   obtain ⟨k, z, hk, rfl, rfl, hb⟩ := hrel
   have BR := hid hb
   have c3 := (H.out.below hb).cell 3
   simp only [gA, gZ, gC] at c3
   have iwk : IntKind.i64.wrap ((k : Int) + 1) = (k : Int) + 1 := iX
   clear hb
   by_cases hkd : (k : Int) < d
   ·go_wp2_with fail
    go_roundw
    case rel => exact ⟨k + 1, _, by omega, by go_num, rfl, BR.out⟩
    case measure => simp [intOf]; omega
   ·go_wp2_with fail
    go_ret
    exact ⟨_, rfl, BR.out⟩
end

section
attribute [local go_sem] run_max2' run_min2' run_max_ run_min_
structure PathAt (B : Nat) (w : World) (gp gG gW : Nat) (u j b : Bool) (s : Int) (v : Value) (l : List O4) : Prop where
 blk : Blk w gp #[.bool u, .bool j, .bool b, .int .i64 s, .pointer (some ⟨gG, 0, none⟩), .pointer (some ⟨gW, 0, none⟩), v] 128
 g : GOk w gG
 wd : WOk w gW
 l : OG outc 4 140 B w v l
 ne : gp ≠ gG ∧ gp ≠ gW ∧ gG ≠ gW
 own : ∀ j, v.ownBlock = some j → j ≠ gp ∧ j ≠ gG ∧ j ≠ gW
 s0 : 0 ≤ s ∧ s ≤ 65536
 ge : B ≤ gp ∧ B ≤ gG ∧ B ≤ gW
/-- The blocks of a path. -/
def pfp (gp gG gW : Nat) (v : Value) (i : Nat) : Prop := i = gp ∨ i = gG ∨ i = gW ∨ v.ownBlock = some i
section
variable {B : Nat} {w w' wz : World} {gp gG gW : Nat} {u j b b' : Bool} {s s' : Int} {v v' : Value} {l l' : List O4}
theorem PathAt.frm (h : PathAt B w gp gG gW u j b s v l) {T : Nat → Prop} (k : Frm T w w') (hT : ∀ i, pfp gp gG gW v i → ¬ T i) : PathAt B w' gp gG gW u j b s v l :=
 ⟨h.blk.frm k (hT _ (.inl rfl)), h.g.frm k (hT _ (.inr (.inl rfl))), h.wd.frm k (hT _ (.inr (.inr (.inl rfl)))), own_frm h.l k (fun i hi => hT i (.inr (.inr (.inr hi)))), h.ne, h.own, h.s0, h.ge⟩
theorem PathAt.below (h : PathAt B w gp gG gW u j b s v l) (k : Below w.heap.size w w') : PathAt B w' gp gG gW u j b s v l := h.frm (Frm.of_below (S := fun _ => False) k) (fun _ _ h => h)
theorem PathAt.setF (h : PathAt B w gp gG gW u j b s v l) (ho : OG outc 4 140 B w v' l') (hv : ∀ i, v'.ownBlock = some i → i ≠ gp ∧ i ≠ gG ∧ i ≠ gW) : PathAt B (w.setCell ⟨gp, 6, none⟩ v') gp gG gW u j b s v' l' := by
 have f := (Frm.refl (· = gp) w).setg (i := 6) v'
 refine ⟨by simpa using h.blk.set 6 v', h.g.frm f (fun e => h.ne.1 e.symm), h.wd.frm f (fun e => h.ne.2.1 e.symm), own_frm ho f (fun i hi e => (hv i hi).1 e), h.ne, hv, h.s0, h.ge⟩
theorem PathAt.setS (h : PathAt B w gp gG gW u j b s v l) (hs : 0 ≤ s' ∧ s' ≤ 65536) : PathAt B (w.setCell ⟨gp, 3, none⟩ (.int .i64 s')) gp gG gW u j b s' v l := by
 have f := (Frm.refl (· = gp) w).setg (i := 3) (.int .i64 s')
 refine ⟨by simpa using h.blk.set 3 (.int .i64 s'), h.g.frm f (fun e => h.ne.1 e.symm), h.wd.frm f (fun e => h.ne.2.1 e.symm), own_frm h.l f (fun i hi e => (h.own i hi).1 e), h.ne, h.own, hs, h.ge⟩
theorem PathAt.setB (h : PathAt B w gp gG gW u j b s v l) : PathAt B (w.setCell ⟨gp, 2, none⟩ (.bool b')) gp gG gW u j b' s v l := by
 have f := (Frm.refl (· = gp) w).setg (i := 2) (.bool b')
 refine ⟨by simpa using h.blk.set 2 (.bool b'), h.g.frm f (fun e => h.ne.1 e.symm), h.wd.frm f (fun e => h.ne.2.1 e.symm), own_frm h.l f (fun i hi e => (h.own i hi).1 e), h.ne, h.own, h.s0, h.ge⟩
theorem PathAt.setU (h : PathAt B w gp gG gW u j b s v l) : PathAt B (w.setCell ⟨gp, 0, none⟩ (.bool b')) gp gG gW b' j b s v l := by
 have f := (Frm.refl (· = gp) w).setg (i := 0) (.bool b')
 refine ⟨by simpa using h.blk.set 0 (.bool b'), h.g.frm f (fun e => h.ne.1 e.symm), h.wd.frm f (fun e => h.ne.2.1 e.symm), own_frm h.l f (fun i hi e => (h.own i hi).1 e), h.ne, h.own, h.s0, h.ge⟩
theorem PathAt.setJ (h : PathAt B w gp gG gW u j b s v l) : PathAt B (w.setCell ⟨gp, 1, none⟩ (.bool b')) gp gG gW u b' b s v l := by
 have f := (Frm.refl (· = gp) w).setg (i := 1) (.bool b')
 refine ⟨by simpa using h.blk.set 1 (.bool b'), h.g.frm f (fun e => h.ne.1 e.symm), h.wd.frm f (fun e => h.ne.2.1 e.symm), own_frm h.l f (fun i hi e => (h.own i hi).1 e), h.ne, h.own, h.s0, h.ge⟩
theorem PathAt.setG (h : PathAt B w gp gG gW u j b s v l) (hg : GOk w' gG) (f : Frm (· = gG) w w') : PathAt B w' gp gG gW u j b s v l :=
 ⟨h.blk.frm f (fun e => h.ne.1 e), hg, h.wd.frm f (fun e => h.ne.2.2 e.symm), own_frm h.l f (fun i hi e => (h.own i hi).2.1 e), h.ne, h.own, h.s0, h.ge⟩
theorem PathAt.setW (h : PathAt B w gp gG gW u j b s v l) (hg : WOk w' gW) (f : Frm (· = gW) w w') : PathAt B w' gp gG gW u j b s v l :=
 ⟨h.blk.frm f (fun e => h.ne.2.1 e), h.g.frm f (fun e => h.ne.2.2 e), hg, own_frm h.l f (fun i hi e => (h.own i hi).2.2 e), h.ne, h.own, h.s0, h.ge⟩
end
/-- Late packets: what is handed on, what is left. -/
def PLateR (B : Nat) (w : World) (gp gG gW : Nat) (u j : Bool) (s : Int) (v : Value) (l : List O4) (e : Ending) (w' : World) : Prop :=
 ∃ v1 v2 b' l1 l2, e = .returned v1 ∧ RG outc 4 w' v1 l1 ∧ (∀ i, v1.ownBlock = some i → w.heap.size ≤ i ∧ ¬ pfp gp gG gW v2 i) ∧ PathAt B w' gp gG gW u j b' s v2 l2 ∧ (∀ o, o ∈ l1 ∨ o ∈ l2 → o ∈ l) ∧ l1.length ≤ l.length ∧ l2.length ≤ l.length ∧ Mv (pfp gp gG gW v) (pfp gp gG gW v2) w w'
set_option maxHeartbeats 8000000 in
set_option maxRecDepth 100000 in
theorem plate_any (B : Nat) (w : World) (gp gG gW : Nat) (u j b : Bool) (s : Int) (v : Value) (l : List O4) (now : Int) (h : PathAt B w gp gG gW u j b s v l) (hB : B ≤ w.heap.size) (hl : l.length ≤ 100000000) :
  Calls Tryz.prog 61 #[.pointer (some ⟨gp, 0, none⟩), .int .i64 now] w fun e w' => PLateR B w gp gG gW u j s v l e w' := by
 obtain ⟨A, c, rfl⟩ := own_slice' h.l
 have H := hid h
 have c4 := h.blk.cell 4
 simp only [gA, gZ, gC] at c4
 have KE : Hid (∀ W, Below w.heap.size w W → W.cell? ⟨gp, 4, none⟩ = some (.pointer (some ⟨gG, 0, none⟩))) := hid (fun W hW => (H.out.blk.below hW).cell 4)
 have G : Hid (Below w.heap.size w w.drew) := hid (Below.refl _ _).drew
 clear h
 go_enter Tryz.func61, Tryz.ntmps61
 go_wp2_with fail
 first | (go_region_held3 (fun w' => w'.cell? ⟨gp, 4, none⟩ = some (.pointer (some ⟨gG, 0, none⟩))) (first | with_reducible exact KE.out _ G.out | with_reducible exact K2.out | go_keep) (first
  | (go_at_call 87; (with_reducible refine (wait_any gG _ (H.out.below G.out).g).mono ?_); rintro e w1 ⟨z, rfl, hb1⟩; have g_ := Below.trans G.out (hb1.mono G.out.size); clear G hb1; have G := hid g_; clear g_)
  | (go_at_call 86; (with_reducible refine (flate_any _ gp 6 _ l now z ((H.out.below G.out).blk.cell 6) ((H.out.below G.out).blk.free 6) (Sl.of_own (H.out.below G.out).l (rowc_one outc_one l)) hl).mono ?_); rintro e w2 ⟨v1, v2, wz, rfl, hbz, rfl, ho1, ho2, hap⟩; have hbw := Below.trans G.out (hbz.mono G.out.size); have K2 : Hid ((wz.setCell ⟨gp, 6, none⟩ v2).cell? ⟨gp, 4, none⟩ = some (.pointer (some ⟨gG, 0, none⟩))) := hid (((H.out.below hbw).blk.set 6 v2).cell 4); have HZ := hid hbw; have H1 := hid ho1; have H2 := hid ho2; have HAP := hid hap; have sG := G.out.size; obtain ⟨A1, c1_, rfl⟩ := own_slice' ho1; clear hbz ho1 ho2 hap hbw))) | fail
 obtain ⟨zz, hzz⟩ : ∃ x, IntKind.i64.wrap (now - z) = x := ⟨_, rfl⟩
 rw [hzz] at H1 H2 HAP
 rw [hzz]
 obtain ⟨la, hla⟩ : ∃ x, lates zz l = x := ⟨_, rfl⟩
 have hm : (∀ o, o ∈ la ∨ o ∈ stays zz l → o ∈ l) := fun o ho => by
  rcases ho with ho | ho
  ·rw [← hla] at ho; exact (List.mem_filter.1 ho).1
  ·exact (List.mem_filter.1 ho).1
 have hl1 : la.length ≤ l.length := by rw [← hla]; exact List.length_filter_le _ _
 have hl2 : (stays zz l).length ≤ l.length := List.length_filter_le _ _
 have HM := hid hm
 rw [hla] at H1 HAP
 rw [hla]
 clear hm hla hzz
 have pl := H.out.blk.lt
 have gl := H.out.g.lt
 have wl := H.out.wd.lt
 have hv2 : ∀ i, v2.ownBlock = some i → i ≠ gp ∧ i ≠ gG ∧ i ≠ gW := fun i hi => by have := (H2.out.lt i hi).1; omega
 have P2 := hid ((H.out.below HZ.out).setF (own_base H2.out (by omega : B ≤ w1.heap.size)) hv2)
 have R1 : Hid (RG outc 4 (wz.setCell ⟨gp, 6, none⟩ v2) (.slice A1 la.length c1_) la) := hid ((Sl.of_own H1.out (rowc_one outc_one la)).frm ((Frm.refl (· = gp) wz).setg (i := 6) v2) (fun i hi e => by have := (H1.out.lt i hi).1; omega))
 have M2 : Hid (Mv (pfp gp gG gW (.slice A l.length c)) (pfp gp gG gW v2) w (wz.setCell ⟨gp, 6, none⟩ v2)) := hid ⟨(Frm.of_below HZ.out).setCell (.inl (.inl rfl)) _, fun i hi => by
  rcases hi with hi | hi | hi | hi
  ·exact .inl (.inl hi)
  ·exact .inl (.inr (.inl hi))
  ·exact .inl (.inr (.inr (.inl hi)))
  ·exact .inr (by have := (H2.out.lt i hi).1; omega)⟩
 have hown1 : ∀ i, (Value.slice A1 la.length c1_).ownBlock = some i → w.heap.size ≤ i ∧ ¬ pfp gp gG gW v2 i := fun i hi => by
  have h1 := (H1.out.lt i hi).1
  refine ⟨by omega, fun hp => ?_⟩
  rcases hp with hp | hp | hp | hp
  ·omega
  ·omega
  ·omega
  ·exact HAP.out i hi hp
 have OW1 := hid hown1
 obtain ⟨W2, hW2⟩ := lx (wz.setCell ⟨gp, 6, none⟩ v2)
 rw [← hW2] at P2 R1 M2
 rw [← hW2]
 clear hown1 hv2 hW2 H1 H2 HZ HAP K2 G
 have e4 := P2.out.blk.cell 4
 have e5 := P2.out.blk.cell 5
 simp only [gA, gZ, gC] at e4 e5
 by_cases h0 : (0 : Int) < (la.length : Int)
 ·go_wp2_with fail
  refine (glate_any gG W2 P2.out.g).mono ?_
  rintro e w3 ⟨rfl, hg3, hf3⟩
  have P3 := hid (P2.out.setG hg3 hf3)
  have R3 : Hid (RG outc 4 w3 (.slice A1 la.length c1_) la) := hid (R1.out.frm hf3 (fun i hi e => by have := (OW1.out i hi).1; omega))
  have M3 := hid (Mv.trans M2.out (⟨hf3.mono (fun i hi => .inr (.inl hi)), fun i hi => .inl hi⟩ : Mv (pfp gp gG gW v2) (pfp gp gG gW v2) W2 w3))
  have e5' := P3.out.blk.cell 5
  simp only [gA, gZ, gC] at e5'
  clear hg3 hf3
  go_wp2_with fail
  refine (loss_any gW w3 P3.out.wd).mono ?_
  rintro e w4 ⟨rfl, hg4, hf4⟩
  have P4 := hid (P3.out.setW hg4 hf4)
  have R4 : Hid (RG outc 4 w4 (.slice A1 la.length c1_) la) := hid (R3.out.frm hf4 (fun i hi e => by have := (OW1.out i hi).1; omega))
  have M4 := hid (Mv.trans M3.out (⟨hf4.mono (fun i hi => .inr (.inr (.inl hi))), fun i hi => .inl hi⟩ : Mv (pfp gp gG gW v2) (pfp gp gG gW v2) w3 w4))
  have e2 := P4.out.blk.cell 2
  have e2f := P4.out.blk.free 2
  simp only [gA, gZ, gC] at e2
  clear hg4 hf4
  go_wp2_with fail
  go_ret
  exact ⟨_, _, true, la, _, rfl, R4.out.frm ((Frm.refl (· = gp) w4).setg (i := 2) (.bool true)) (fun i hi e => by have := (OW1.out i hi).1; omega), OW1.out, P4.out.setB, HM.out, hl1, hl2, Mv.trans M4.out (⟨((Frm.refl (· = gp) w4).setg (i := 2) (.bool true)).mono (fun i hi => .inl hi), fun i hi => .inl hi⟩)⟩
 ·go_wp2_with fail
  go_ret
  exact ⟨_, _, b, la, _, rfl, R1.out, OW1.out, P2.out, HM.out, hl1, hl2, M2.out⟩
end
end Go.Proofs.YtdneakejlbabeaaGreat
