/- Parts of the walk: Df, Db, Dk, Ec, Ei. -/
import Derived.Test.YtdneakejlbabeaaGreatM03
import Derived.BigQuiet
import Derived.StillTailTactics
import Derived.RegionTactic
import Derived.Deep.RegionHeld3
import Derived.Deep.RegionLaw
namespace Go.Proofs.YtdneakejlbabeaaGreat
open Go.RowKit
set_option linter.unusedVariables false
set_option linter.unusedSimpArgs false
attribute [local go_sem] run_max2' run_min2' run_max_ run_min_

def addGo : List (Int × Int) → Int → Int → Bool → List (Int × Int) → List (Int × Int)
  | [], p, q, d, out => if d then out else out ++ [(p, q)]
  | r :: rs, p, q, d, out => if r.2 < p then addGo rs p q d (out ++ [r]) else if q < r.1 then addGo rs p q true ((if d then out else out ++ [(p, q)]) ++ [r]) else addGo rs (mn p r.1) (mx q r.2) d out
def setAdd (f t : Int) (rs : List (Int × Int)) : List (Int × Int) := if mx f 0 < mn t 1099511627776 then addGo rs (mx f 0) (mn t 1099511627776) false [] else rs
set_option maxHeartbeats 8000000 in
set_option maxRecDepth 100000 in
theorem setadd_any (w : World) (gs k : Nat) (v : Value) (rs : List (Int × Int)) (f t : Int) (hc : w.cell? ⟨gs, k, none⟩ = some v) (hf : w.frozen? ⟨gs, k, none⟩ = false) (hr : RR w v rs) (hl : rs.length ≤ 100000000) :
    Calls Tryz.prog 104 #[.pointer (some ⟨gs, k, none⟩), .int .i64 f, .int .i64 t] w fun e w' => SetR w gs k v (setAdd f t rs) e w' := by
  obtain ⟨A, c, rfl, _, _⟩ := hr.len
  have H := Lib.hid hr
  have HI := Lib.hid Tryz.info171
  have hgs := World.block_lt_of_cell? w _ hc
  simp only at hgs
  clear hr
  obtain ⟨x, hx⟩ : ∃ x, mx f 0 = x := ⟨_, rfl⟩
  obtain ⟨y, hy⟩ : ∃ y, mn t 1099511627776 = y := ⟨_, rfl⟩
  unfold setAdd
  rw [hx, hy]
  have HX := Lib.hid hx
  have HY := Lib.hid hy
  clear hx hy
  by_cases hxy : x < y
  · rw [if_pos hxy]
    obtain ⟨res, hres⟩ : ∃ r, addGo rs x y false [] = r := ⟨_, rfl⟩
    rw [hres]
    have HRES := Lib.hid hres
    clear hres
    go_enter Tryz.func104, Tryz.ntmps104
    go_wp2_with fail
    refine (clip_any f t w).mono ?_
    rintro e _ ⟨rfl, rfl⟩
    rw [HX.out, HY.out, decide_eq_true hxy]
    go_wp2_with fail
    go_loopw [1, 2, 7, 8, 25] (fun vp vq o vd i wr => ∃ (j : Nat) (p q : Int) (d : Bool) (ls : List (Int × Int)), j ≤ rs.length ∧ i = .int .i64 j ∧ vp = .int .i64 p ∧ vq = .int .i64 q ∧ vd = .bool d ∧ OR w.heap.size wr o ls ∧ ls.length ≤ 2 * j ∧ addGo (rs.drop j) p q d ls = res ∧ Below w.heap.size w wr) (fun _ _ _ _ i _ => rs.length - (intOf i).toNat)
    case atStart => exact ⟨0, x, y, false, [], Nat.zero_le _, rfl, rfl, rfl, rfl, World.ownsRow_nil _ _ _ _, by simp, HRES.out, Below.refl _ _⟩
    case round =>
      obtain ⟨j, p, q, d, ls, hj, rfl, rfl, rfl, rfl, hor, hls, hgo, hb⟩ := hrel
      have HO := Lib.hid hor
      have BR := Lib.hid hb
      have HG := Lib.hid hgo
      have sr : w.heap.size ≤ wr.heap.size := hb.size
      obtain ⟨A0, c0, rfl⟩ := own_slice' hor
      clear hor hb hgo
      by_cases hjl : j < rs.length
      · have j0 : (0 : Int) ≤ (j : Int) := by omega
        have j1 : (j : Int) < (rs.length : Int) := by omega
        have iwj : IntKind.i64.wrap ((j : Int) + 1) = (j : Int) + 1 := IntWalk.i64_in _ ⟨by omega, by omega⟩
        obtain ⟨ad, rfl, d0, d1⟩ := RR.at_ (H.out.below BR.out) hjl
        obtain ⟨r, hr⟩ : ∃ r, rs[j] = r := ⟨_, rfl⟩
        have HT : Hid (addGo (rs.drop j) p q d ls = (if r.2 < p then addGo (rs.drop (j + 1)) p q d (ls ++ [r]) else if q < r.1 then addGo (rs.drop (j + 1)) p q true ((if d then ls else ls ++ [(p, q)]) ++ [r]) else addGo (rs.drop (j + 1)) (mn p r.1) (mx q r.2) d ls)) := Lib.hid (by rw [List.drop_eq_getElem_cons hjl, hr]; rfl)
        rw [hr] at d0 d1
        obtain ⟨a, b⟩ := r
        simp only at d0 d1
        clear hr
        have O1 : Hid (OR w.heap.size (wr.alloc (.cells #[.int .i64 a, .int .i64 b] 171)) (.slice A0 ls.length c0) ls) := Lib.hid (HO.out.alloc _)
        have B1 : Hid (Below w.heap.size w (wr.alloc (.cells #[.int .i64 a, .int .i64 b] 171))) := Lib.hid (BR.out.alloc sr _)
        have s1 : w.heap.size ≤ (wr.alloc (.cells #[.int .i64 a, .int .i64 b] 171)).heap.size := B1.out.size
        have E1 : Hid (Blk (wr.alloc (.cells #[.int .i64 a, .int .i64 b] 171)) wr.heap.size #[.int .i64 a, .int .i64 b] 171) := Lib.hid (Blk.new _ _ _)
        have m0 := E1.out.cell 0
        have m1 := E1.out.cell 1
        simp only [List.getElem?_toArray, List.getElem?_cons_zero, List.getElem?_cons_succ] at m0 m1
        by_cases h1 : b < p
        · go_wp2_with (at_builtin; refine wp_app w.heap.size rfl _ _ 68 171 _ 2 16 rfl Tryz.underlying68 HI.out rfl (by omega) (by omega) rfl rfl ((O1.out).alloc _) (Sl.boxk (wr.alloc (.cells #[.int .i64 a, .int .i64 b] 171)) 171 2 [.int .i64 a, .int .i64 b] _ (by simp) rfl (by simp [Value.oneCell'])) (by first | omega | (simp only [List.length_append, List.length_cons, List.length_nil]; omega)) (Nat.le_trans s1 (by simp)) ?_; intro v7 w7 hown hfr hat; have O7 := Lib.hid (OR.push (rs := ls) hown); have B7 := Lib.hid (Frm.below ((B1.out).alloc s1 _) hfr (Nat.le_trans s1 (by simp)) (fun g hg => ((O1.out).lt g hg).1)); have s7 : w.heap.size ≤ w7.heap.size := B7.out.size; obtain ⟨A7, c7, rfl⟩ := own_slice' hown; clear hown hfr hat)
          (try go_wp2_with fail)
          go_roundw
          case rel => exact ⟨j + 1, p, q, d, _, hjl, by go_num, rfl, rfl, rfl, O7.out, by simp; omega, by rw [← HG.out, HT.out]; (try simp only); rw [if_pos h1], B7.out⟩
          case measure => simp [intOf]; omega
        · by_cases h2 : q < a
          · cases d
            · go_wp2_with (first
                | (at_builtin; refine wp_app w.heap.size rfl _ _ 68 171 _ 2 16 rfl Tryz.underlying68 HI.out rfl (by omega) (by omega) rfl rfl ((O1.out).alloc _) (Sl.boxk (wr.alloc (.cells #[.int .i64 a, .int .i64 b] 171)) 171 2 [.int .i64 p, .int .i64 q] _ (by simp) rfl (by simp [Value.oneCell'])) (by first | omega | (simp only [List.length_append, List.length_cons, List.length_nil]; omega)) (Nat.le_trans s1 (by simp)) ?_; intro v7 w7 hown hfr hat; have O7 := Lib.hid (OR.push (rs := ls) hown); have B7 := Lib.hid (Frm.below ((B1.out).alloc s1 _) hfr (Nat.le_trans s1 (by simp)) (fun g hg => ((O1.out).lt g hg).1)); have s7 : w.heap.size ≤ w7.heap.size := B7.out.size; have eb := (E1.out.alloc _).frm hfr (fun hg => by have := (HO.out.lt _ hg).2; omega); have eb0 := eb.cell 0; have eb1 := eb.cell 1; simp only [List.getElem?_toArray, List.getElem?_cons_zero, List.getElem?_cons_succ] at eb0 eb1; clear eb; obtain ⟨A7, c7, rfl⟩ := own_slice' hown; clear hown hfr hat)
                | (at_builtin; refine wp_app w.heap.size rfl _ _ 68 171 _ 2 16 rfl Tryz.underlying68 HI.out rfl (by omega) (by omega) rfl rfl ((O7.out).alloc _) (Sl.boxk w7 171 2 [.int .i64 a, .int .i64 b] _ (by simp) rfl (by simp [Value.oneCell'])) (by first | omega | (simp only [List.length_append, List.length_cons, List.length_nil]; omega)) (Nat.le_trans s7 (by simp)) ?_; intro v8 w8 hown hfr hat; have O8 := Lib.hid (OR.push (rs := (ls ++ [(p, q)])) hown); have B8 := Lib.hid (Frm.below ((B7.out).alloc s7 _) hfr (Nat.le_trans s7 (by simp)) (fun g hg => ((O7.out).lt g hg).1)); have s8 : w.heap.size ≤ w8.heap.size := B8.out.size; obtain ⟨A8, c8, rfl⟩ := own_slice' hown; clear hown hfr hat))
              (try go_wp2_with fail)
              go_roundw
              case rel => exact ⟨j + 1, p, q, true, _, hjl, by go_num, rfl, rfl, rfl, (by have h8 := O8.out; rw [show (ls ++ [(p, q)]).length + 1 = ls.length + 1 + 1 by simp] at h8; exact h8), by simp; omega, by rw [← HG.out, HT.out]; (try simp only); rw [if_neg h1, if_pos h2]; rfl, B8.out⟩
              case measure => simp [intOf]; omega
            · go_wp2_with (at_builtin; refine wp_app w.heap.size rfl _ _ 68 171 _ 2 16 rfl Tryz.underlying68 HI.out rfl (by omega) (by omega) rfl rfl ((O1.out).alloc _) (Sl.boxk (wr.alloc (.cells #[.int .i64 a, .int .i64 b] 171)) 171 2 [.int .i64 a, .int .i64 b] _ (by simp) rfl (by simp [Value.oneCell'])) (by first | omega | (simp only [List.length_append, List.length_cons, List.length_nil]; omega)) (Nat.le_trans s1 (by simp)) ?_; intro v7 w7 hown hfr hat; have O7 := Lib.hid (OR.push (rs := ls) hown); have B7 := Lib.hid (Frm.below ((B1.out).alloc s1 _) hfr (Nat.le_trans s1 (by simp)) (fun g hg => ((O1.out).lt g hg).1)); have s7 : w.heap.size ≤ w7.heap.size := B7.out.size; obtain ⟨A7, c7, rfl⟩ := own_slice' hown; clear hown hfr hat)
              (try go_wp2_with fail)
              go_roundw
              case rel => exact ⟨j + 1, p, q, true, _, hjl, by go_num, rfl, rfl, rfl, O7.out, by simp; omega, by rw [← HG.out, HT.out]; (try simp only); rw [if_neg h1, if_pos h2]; rfl, B7.out⟩
              case measure => simp [intOf]; omega
          · go_wp2_with fail
            go_quiet (fail)
            go_wp2_with fail
            go_roundw
            case rel => exact ⟨j + 1, mn p a, mx q b, d, ls, hjl, by go_num, rfl, rfl, rfl, O1.out, by omega, by rw [← HG.out, HT.out]; (try simp only); rw [if_neg (show ¬ b < p by omega), if_neg (show ¬ q < a by omega)], below_drewN B1.out _⟩
            case measure => simp [intOf]; omega
      · have j1 : ¬ (j : Int) < (rs.length : Int) := by omega
        obtain rfl : j = rs.length := by omega
        have hg := HG.out
        rw [List.drop_length] at hg
        cases d
        · have e2 : ls ++ [(p, q)] = res := hg
          go_wp2_with (at_builtin; refine wp_app w.heap.size rfl _ _ 68 171 _ 2 16 rfl Tryz.underlying68 HI.out rfl (by omega) (by omega) rfl rfl ((HO.out).alloc _) (Sl.boxk wr 171 2 [.int .i64 p, .int .i64 q] _ (by simp) rfl (by simp [Value.oneCell'])) (by first | omega | (simp only [List.length_append, List.length_cons, List.length_nil]; omega)) (Nat.le_trans sr (by simp)) ?_; intro v7 w7 hown hfr hat; have O7 := Lib.hid (OR.push (rs := ls) hown); have B7 := Lib.hid (Frm.below ((BR.out).alloc sr _) hfr (Nat.le_trans sr (by simp)) (fun g hg => ((HO.out).lt g hg).1)); have s7 : w.heap.size ≤ w7.heap.size := B7.out.size; have cr := (B7.out.cell (p := ⟨gs, k, none⟩) hgs).trans hc; have fr := (B7.out.frozen (p := ⟨gs, k, none⟩) hgs).trans hf; obtain ⟨A7, c7, rfl⟩ := own_slice' hown; clear hown hfr hat)
          (try go_wp2_with fail)
          have hlt := O7.out.lt
          go_end0
          exact ⟨rfl, _, ⟨w7, B7.out, .inl rfl⟩, (by have h7 : RR w7 _ (ls ++ [(p, q)]) := O7.out.rr; rw [e2] at h7; exact h7.frm ((Frm.refl (· = gs) w7).setCell (.inl rfl) _) (fun j hj e => by have := (hlt j hj).1; omega)), .inr (fun j hj => ⟨(hlt j hj).1, Nat.lt_of_lt_of_le (hlt j hj).2 ((Frm.refl (· = gs) w7).setCell (p := ⟨gs, k, none⟩) (.inl rfl) _).size⟩)⟩
        · have e2 : ls = res := hg
          subst e2
          have hlt := HO.out.lt
          have cr := (BR.out.cell (p := ⟨gs, k, none⟩) hgs).trans hc
          have fr := (BR.out.frozen (p := ⟨gs, k, none⟩) hgs).trans hf
          go_wp2_with fail
          go_end0
          exact ⟨rfl, _, ⟨wr, BR.out, .inl rfl⟩, HO.out.rr.frm ((Frm.refl (· = gs) wr).setCell (.inl rfl) _) (fun j hj e => by have := (hlt j hj).1; omega), .inr (fun j hj => ⟨(hlt j hj).1, Nat.lt_of_lt_of_le (hlt j hj).2 ((Frm.refl (· = gs) wr).setCell (p := ⟨gs, k, none⟩) (.inl rfl) _).size⟩)⟩
  · rw [if_neg hxy]
    go_enter Tryz.func104, Tryz.ntmps104
    go_wp2_with fail
    refine (clip_any f t w).mono ?_
    rintro e _ ⟨rfl, rfl⟩
    rw [HX.out, HY.out, decide_eq_false (by omega)]
    go_wp2_with fail
    refine bodyPost_ret (results_none rfl _ _ _) rfl ?_
    exact ⟨rfl, _, ⟨w, Below.refl _ _, .inr ⟨rfl, hc⟩⟩, H.out, .inl rfl⟩
end Go.Proofs.YtdneakejlbabeaaGreat

namespace Go.Proofs.YtdneakejlbabeaaGreat
open Go.RowKit
set_option linter.unusedVariables false
set_option linter.unusedSimpArgs false
attribute [local go_sem] run_max2' run_min2' run_max_ run_min_
theorem GOk.drew {w : World} {g : Nat} (h : GOk w g) : GOk w.drew g := h
theorem GOk.drewN {w : World} {g : Nat} (h : GOk w g) (n : Nat) : GOk (w.drewN n) g := h
theorem WOk.drew {w : World} {g : Nat} (h : WOk w g) : WOk w.drew g := h
theorem WOk.drewN {w : World} {g : Nat} (h : WOk w g) (n : Nat) : WOk (w.drewN n) g := h
end Go.Proofs.YtdneakejlbabeaaGreat

namespace Go.Proofs.YtdneakejlbabeaaGreat
open Go.RowKit
set_option linter.unusedVariables false
set_option linter.unusedSimpArgs false
attribute [local go_sem] run_max2' run_min2' run_max_ run_min_

abbrev PaC (w : World) (g : Nat) (u j b : Bool) (s : Int) (gG gW : Nat) (A : Option Addr) (n c : Nat) : Prop := Blk w g #[.bool u, .bool j, .bool b, .int .i64 s, .pointer (some ⟨gG, 0, none⟩), .pointer (some ⟨gW, 0, none⟩), .slice A n c] 128
def NumR (w : World) (g : Nat) (s : Int) (e : Ending) (w' : World) : Prop :=
  (65535 < s ∧ e = .returned (.tuple #[.int .i64 0, .bool false]) ∧ w' = w) ∨ (s ≤ 65535 ∧ e = .returned (.tuple #[.int .i64 s, .bool true]) ∧ w' = w.setCell ⟨g, 3, none⟩ (.int .i64 (s + 1)))
theorem res_two {fn : Func} {t u : Tmp} (h : fn.results = #[.tmp t, .tmp u]) (tmps : Array Value) (P : Program) (w : World) :
    (results fn tmps).run P w = .ok (.tuple #[tmps.getD t undef, tmps.getD u undef]) w := by
  simp [results, h]
theorem number_any (w : World) (g : Nat) (u j b : Bool) (s : Int) (gG gW : Nat) (A : Option Addr) (n c : Nat) (h : PaC w g u j b s gG gW A n c) (hs : 0 ≤ s ∧ s ≤ 65536) :
    Calls Tryz.prog 95 #[.pointer (some ⟨g, 0, none⟩)] w fun e w' => NumR w g s e w' := by
  have c3 := h.cell 3
  have f3 := h.free 3
  simp at c3
  have iw : IntKind.i64.wrap (s + 1) = s + 1 := IntWalk.i64_in _ ⟨by omega, by omega⟩
  have iw2 : IntKind.i64.wrap s = s := IntWalk.i64_in _ ⟨by omega, by omega⟩
  have iw3 : IntKind.i64.wrap (s + 1 - 1) = s := by rw [show s + 1 - 1 = s by omega]; exact iw2
  clear h
  by_cases hm : 65535 < s
  · go_enter Tryz.func95, Tryz.ntmps95
    go_wp2_with fail
    refine bodyPost_ret (res_two rfl _ _ _) rfl ?_
    exact .inl ⟨hm, rfl, rfl⟩
  · go_enter Tryz.func95, Tryz.ntmps95
    go_wp2_with fail
    refine bodyPost_ret (res_two rfl _ _ _) rfl ?_
    exact .inr ⟨by omega, rfl, rfl⟩
set_option maxHeartbeats 4000000 in
set_option maxRecDepth 100000 in
theorem usable1_any (w : World) (g : Nat) (u j b : Bool) (s : Int) (gG gW : Nat) (A : Option Addr) (n c : Nat) (m z t k : Int) (h : PaC w g u j b s gG gW A n c) (hw : Blk w gW #[.int .i64 m, .int .i64 z, .int .i64 t, .int .i64 k] 176) (q : Bool) (hq : (u && j && decide ((n : Int) < z) && decide (s ≤ 65535)) = q) :
    Calls Tryz.prog 93 #[.pointer (some ⟨g, 0, none⟩)] w fun e w' => e = .returned (.bool q) ∧ Below w.heap.size w w' := by
  have c0 := h.cell 0
  have c1 := h.cell 1
  have c3 := h.cell 3
  have c5 := h.cell 5
  have c6 := h.cell 6
  have d1 := hw.cell 1
  simp at c0 c1 c3 c5 c6 d1
  clear h hw
  have hbel := fun k : Nat => below_drewN (Below.refl w.heap.size w) k
  obtain ⟨p1, hp1⟩ : ∃ p, decide ((n : Int) < z) = p := ⟨_, rfl⟩
  obtain ⟨p2, hp2⟩ : ∃ p, decide (s ≤ 65535) = p := ⟨_, rfl⟩
  rw [hp1, hp2] at hq
  cases u
  · simp at hq
    subst hq
    go_enter Tryz.func93, Tryz.ntmps93
    go_wp2_with fail
    go_quiet (fail)
    go_wp2_with fail
    go_ret
    exact ⟨rfl, hbel _⟩
  · cases j
    · simp at hq
      subst hq
      go_enter Tryz.func93, Tryz.ntmps93
      go_wp2_with fail
      go_quiet (fail)
      go_wp2_with fail
      go_ret
      exact ⟨rfl, hbel _⟩
    · cases p1
      · simp at hq
        subst hq
        have hn : ¬ (n : Int) < z := of_decide_eq_false hp1
        go_enter Tryz.func93, Tryz.ntmps93
        go_wp2_with fail
        go_quiet (fail)
        go_wp2_with fail
        go_ret
        exact ⟨rfl, hbel _⟩
      · simp at hq
        have hn : (n : Int) < z := of_decide_eq_true hp1
        subst hq
        go_enter Tryz.func93, Tryz.ntmps93
        go_wp2_with fail
        go_quiet (fail)
        go_wp2_with fail
        go_ret
        exact ⟨by first | rfl | simp [hp2], hbel _⟩
set_option maxHeartbeats 4000000 in
set_option maxRecDepth 100000 in
theorem ilimit_any (w : World) (g : Nat) (wi ta en : Int) (A A2 : Option Addr) (n c n2 c2 : Nat) (h : Blk w g #[.int .i64 wi, .int .i64 ta, .int .i64 en, .slice A n c, .slice A2 n2 c2] 154) (hs : 0 ≤ wi ∧ wi ≤ 1000000 ∧ 0 ≤ ta ∧ ta ≤ 1000000) :
    Calls Tryz.prog 76 #[.pointer (some ⟨g, 0, none⟩)] w fun e w' => e = .returned (.int .i64 (ta + wi)) ∧ Below w.heap.size w w' := by
  have c0 := h.cell 0
  have c1 := h.cell 1
  simp at c0 c1
  have iw : IntKind.i64.wrap (ta + wi) = ta + wi := IntWalk.i64_in _ ⟨by omega, by omega⟩
  have hbel := fun k : Nat => below_drewN (Below.refl w.heap.size w) k
  clear h
  go_enter Tryz.func76, Tryz.ntmps76
  go_wp2_with fail
  go_quiet (fail)
  go_wp2_with fail
  go_ret
  exact ⟨rfl, hbel _⟩
end Go.Proofs.YtdneakejlbabeaaGreat

namespace Go.Proofs.YtdneakejlbabeaaGreat
open Go.RowKit
set_option linter.unusedVariables false
set_option linter.unusedSimpArgs false
attribute [local go_sem] run_max2' run_min2' run_max_ run_min_

def frontL : List (Int × Int) → Int
  | [] => 0
  | r :: _ => if r.1 = 0 then r.2 else 0
theorem setfront_any (w : World) (gs k : Nat) (v : Value) (rs : List (Int × Int)) (hc : w.cell? ⟨gs, k, none⟩ = some v) (hr : RR w v rs) :
    Calls Tryz.prog 118 #[.pointer (some ⟨gs, k, none⟩)] w fun e w' => e = .returned (.int .i64 (frontL rs)) ∧ w = w' := by
  obtain ⟨A, c, rfl, _, hm⟩ := hr.len
  have H := Lib.hid hr
  have hn : rs.length ≤ 9223372036854775807 := by unfold maxLen at hm; omega
  clear hr
  cases rs with
  | nil =>
    go_enter Tryz.func118, Tryz.ntmps118
    go_wp2
    go_ret
    exact ⟨rfl, rfl⟩
  | cons r rs =>
    obtain ⟨ad, rfl, c0, c1⟩ := RR.at_ H.out (i := 0) (by simp)
    obtain ⟨a, b⟩ := r
    simp only [List.getElem_cons_zero, Nat.zero_mul, addr_zero] at c0 c1
    have h0 : (0 : Int) < ((rs.length + 1 : Nat) : Int) := by omega
    have HL : (((a, b) :: rs : List (Int × Int)).length) = rs.length + 1 := rfl
    rw [HL] at *
    obtain ⟨n, hn'⟩ : ∃ n, rs.length + 1 = n := ⟨_, rfl⟩
    rw [hn'] at *
    by_cases ha : a = 0
    · subst ha
      have e : frontL ((0, b) :: rs) = b := rfl
      rw [e]
      go_enter Tryz.func118, Tryz.ntmps118
      go_wp2
      go_ret
      exact ⟨rfl, rfl⟩
    · have e : frontL ((a, b) :: rs) = 0 := by unfold frontL; simp [ha]
      rw [e]
      go_enter Tryz.func118, Tryz.ntmps118
      go_wp2
      go_ret
      exact ⟨rfl, rfl⟩

theorem cell_same {w W : World} (hW : W.heap = w.heap) (p : Addr) : W.cell? p = w.cell? p := by simp only [World.cell?, hW]
theorem Blk.same {w W : World} {g : Nat} {cs : Array Value} {t : TypeId} (h : Blk w g cs t) (hW : W.heap = w.heap) : Blk W g cs t := by unfold Blk at *; rw [hW]; exact h
theorem Sl.same {w W : World} {size n : Nat} {v : Value} {xs : List Value} (h : Sl w size v n xs) (hW : W.heap = w.heap) : Sl W size v n xs := by
  obtain ⟨A, c, e, h1, h2, h3, h4, h5⟩ := h
  exact ⟨A, c, e, h1, h2, h3, h4, fun h0 => by
    obtain ⟨ad, e, hc⟩ := h5 h0
    exact ⟨ad, e, fun j u hj => (cell_same hW _).trans (hc j u hj)⟩⟩
theorem Sl.sub {w : World} {s n c t u : Nat} {A : Option Addr} {xs : List Value} (h : Sl w s (.slice A n c) n xs) (ht : t ≤ u) (hu : u ≤ n) :
    Sl w s (.slice (if c = t then A else Option.map (fun x => x.add (t * s)) A) (u - t) (c - t)) (u - t) ((xs.drop (t * s)).take ((u - t) * s)) := by
  obtain ⟨A', c', e, h1, h2, hl, h3, hr⟩ := h
  injection e with e1 e2 e3
  subst e1 e3
  have hm : t * s + (u - t) * s ≤ n * s := by rw [← Nat.add_mul]; exact Nat.mul_le_mul_right _ (by omega)
  refine ⟨_, _, rfl, by omega, by omega, by rw [List.length_take, List.length_drop]; omega, fun x hx => h3 x (List.mem_of_mem_drop (List.mem_of_mem_take hx)), fun h0 => ?_⟩
  have hut : t < u := by
    rcases Nat.lt_or_ge t u with h | h
    · exact h
    · rw [show u - t = 0 by omega] at h0
      simp at h0
  rw [if_neg (show ¬ c = t by omega)]
  have hx : 0 < xs.length := by
    rw [List.length_take, List.length_drop] at h0
    omega
  obtain ⟨ad, rfl, hc⟩ := hr hx
  refine ⟨_, rfl, fun j v hj => ?_⟩
  rw [addr_add]
  have hlt := (List.getElem?_eq_some_iff.1 hj).1
  rw [List.length_take] at hlt
  rw [List.getElem?_take, if_pos (by omega), List.getElem?_drop] at hj
  exact hc _ v hj
theorem Sl.sub1 {w : World} {n c t u : Nat} {A : Option Addr} {xs : List Value} (h : Sl w 1 (.slice A n c) n xs) (ht : t ≤ u) (hu : u ≤ n) :
    Sl w 1 (.slice (if c = t then A else Option.map (fun x => x.add t) A) (u - t) (c - t)) (u - t) ((xs.drop t).take (u - t)) := by
  have := h.sub ht hu
  simpa only [Nat.mul_one] using this
abbrev IbC (w : World) (g : Nat) (wi ta en : Int) (vb vg : Value) : Prop := Blk w g #[.int .i64 wi, .int .i64 ta, .int .i64 en, vb, vg] 154
section
variable {w : World} {g : Nat} {wi ta en : Int} {vb vg : Value} {rs : List (Int × Int)}
theorem front_any (h : IbC w g wi ta en vb vg) (hr : RR w vg rs) :
    Calls Tryz.prog 105 #[.pointer (some ⟨g, 0, none⟩)] w fun e w' => e = .returned (.int .i64 (frontL rs)) ∧ w = w' := by
  have c4 := h.cell 4
  simp at c4
  clear h
  go_enter Tryz.func105, Tryz.ntmps105
  go_wp2_with fail
  refine (setfront_any w g 4 vg rs c4 hr).mono ?_
  rintro e _ ⟨rfl, rfl⟩
  go_wp2_with fail
  go_ret
  exact ⟨rfl, rfl⟩
theorem ready_any (h : IbC w g wi ta en vb vg) (hr : RR w vg rs) :
    Calls Tryz.prog 96 #[.pointer (some ⟨g, 0, none⟩)] w fun e w' => e = .returned (.int .i64 (IntKind.i64.wrap (frontL rs - ta))) ∧ ∃ n, w' = w.drewN n := by
  have c1 := h.cell 1
  simp at c1
  have H := Lib.hid h
  have HR := Lib.hid hr
  clear h hr
  obtain ⟨f, hf⟩ : ∃ f, frontL rs = f := ⟨_, rfl⟩
  have HF := Lib.hid hf
  rw [hf]
  clear hf
  have FA : Hid (∀ W : World, W.heap = w.heap → Calls Tryz.prog 105 #[.pointer (some ⟨g, 0, none⟩)] W fun e w' => e = .returned (.int .i64 f) ∧ w' = W) := Lib.hid (fun W hW => (front_any (w := W) (Blk.same H.out hW) (Sl.same HR.out hW)).mono (by rintro e _ ⟨rfl, rfl⟩; exact ⟨by rw [HF.out], rfl⟩))
  obtain ⟨z, hz⟩ : ∃ z, IntKind.i64.wrap (f - ta) = z := ⟨_, rfl⟩
  rw [hz]
  go_enter Tryz.func96, Tryz.ntmps96
  go_wp2_with fail
  go_quiet (first | (go_at_call 105; exact Calls.quiet_of_same (FA.out _ rfl)))
  go_wp2_with fail
  go_ret
  exact ⟨rfl, _, rfl⟩
theorem drewN_drewN (w : World) (n m : Nat) : ∃ k, (w.drewN n).drewN m = w.drewN k := ⟨n + m, by simp [World.drewN, Nat.add_assoc]⟩
def seenL (en : Int) (rs : List (Int × Int)) : Int := if 0 ≤ en ∧ en ≤ frontL rs then IntKind.i64.wrap (en + 1) else frontL rs
theorem seen_any (h : IbC w g wi ta en vb vg) (hr : RR w vg rs) :
    Calls Tryz.prog 75 #[.pointer (some ⟨g, 0, none⟩)] w fun e w' => e = .returned (.int .i64 (seenL en rs)) ∧ ∃ n, w' = w.drewN n := by
  have c2 := h.cell 2
  simp at c2
  have H := Lib.hid h
  have HR := Lib.hid hr
  clear h hr
  obtain ⟨f, hf⟩ : ∃ f, frontL rs = f := ⟨_, rfl⟩
  have HF := Lib.hid hf
  unfold seenL
  rw [hf]
  clear hf
  have FA : Hid (∀ W : World, W.heap = w.heap → Calls Tryz.prog 105 #[.pointer (some ⟨g, 0, none⟩)] W fun e w' => e = .returned (.int .i64 f) ∧ w' = W) := Lib.hid (fun W hW => (front_any (w := W) (Blk.same H.out hW) (Sl.same HR.out hW)).mono (by rintro e _ ⟨rfl, rfl⟩; exact ⟨by rw [HF.out], rfl⟩))
  by_cases h1 : 0 ≤ en
  · by_cases h2 : en ≤ f
    · rw [if_pos ⟨h1, h2⟩]
      have h1' : decide (0 ≤ en) = true := decide_eq_true h1
      have h3 : decide (en ≤ f) = true := decide_eq_true h2
      obtain ⟨z, hz⟩ : ∃ z, IntKind.i64.wrap (en + 1) = z := ⟨_, rfl⟩
      rw [hz]
      go_enter Tryz.func75, Tryz.ntmps75
      go_wp2_with fail
      go_quiet (first | (go_at_call 105; exact Calls.quiet_of_same (FA.out _ rfl)))
      go_wp2_with fail
      go_ret
      exact ⟨rfl, _, rfl⟩
    · rw [if_neg (fun h => h2 h.2)]
      have h3 : decide (en ≤ f) = false := decide_eq_false h2
      have h1' : decide (0 ≤ en) = true := decide_eq_true h1
      go_enter Tryz.func75, Tryz.ntmps75
      go_wp2_with fail
      go_quiet (first | (go_at_call 105; exact Calls.quiet_of_same (FA.out _ rfl)))
      go_wp2_with fail
      refine (FA.out (World.drewN _ _) rfl).mono ?_
      rintro e _ ⟨rfl, rfl⟩
      go_wp2_with fail
      go_ret
      exact ⟨rfl, _, rfl⟩
  · rw [if_neg (fun h => h1 h.1)]
    have h1' : decide (0 ≤ en) = false := decide_eq_false h1
    go_enter Tryz.func75, Tryz.ntmps75
    go_wp2_with fail
    go_quiet (first | (go_at_call 105; exact Calls.quiet_of_same (FA.out _ rfl)))
    go_wp2_with fail
    refine (FA.out (World.drewN _ _) rfl).mono ?_
    rintro e _ ⟨rfl, rfl⟩
    go_wp2_with fail
    go_ret
    exact ⟨rfl, _, rfl⟩
def IReadR (w : World) (g : Nat) (t f : Nat) (e : Ending) (w' : World) : Prop := ∃ v' l wz, e = .returned v' ∧ BO w.heap.size w' v' l ∧ t + l.length ≤ f ∧ Below w.heap.size w wz ∧ w' = wz.setCell ⟨g, 1, none⟩ (.int .i64 ((t + l.length : Nat) : Int))
set_option maxHeartbeats 4000000 in
set_option maxRecDepth 100000 in
theorem iread_any (S : Nat → Prop) (bl : List Int) (t f : Nat) (n : Int) (h : IbC w g wi t en vb vg) (hr : RR w vg rs) (hb : BV w S vb bl) (hf : frontL rs = f) (htf : t ≤ f) (hfb : f ≤ bl.length) (hbl : bl.length ≤ 1000000) :
    Calls Tryz.prog 68 #[.pointer (some ⟨g, 0, none⟩), .int .i64 n] w fun e w' => IReadR w g t f e w' := by
  have c1 := h.cell 1
  have c3 := h.cell 3
  have f1 := h.free 1
  simp at c1 c3
  have H := Lib.hid h
  have HR := Lib.hid hr
  have HF := Lib.hid hf
  have HB := Lib.hid hb
  have HI := Lib.hid Tryz.info5
  obtain ⟨A, c, rfl, hbc, hbm⟩ := hb.len
  have iwf : IntKind.i64.wrap ((f : Int) - (t : Int)) = ((f - t : Nat) : Int) := by rw [IntWalk.i64_in _ ⟨by omega, by omega⟩]; omega
  clear h hr hb hf
  obtain ⟨k, hk, hkf⟩ : ∃ k : Nat, mn (mx n 0) ((f - t : Nat) : Int) = (k : Int) ∧ t + k ≤ f := by
    refine ⟨(mn (mx n 0) ((f - t : Nat) : Int)).toNat, ?_, ?_⟩
    · unfold mn mx; split <;> split <;> omega
    · unfold mn mx; split <;> split <;> omega
  have HK := Lib.hid hk
  clear hk
  go_enter Tryz.func68, Tryz.ntmps68
  go_wp2_with fail
  refine (ready_any H.out HR.out).mono ?_
  rintro e _ ⟨rfl, m, rfl⟩
  rw [HF.out, iwf]
  go_wp2_with fail
  refine (clamp_any _ _ _ _).mono ?_
  rintro e _ ⟨rfl, rfl⟩
  rw [HK.out]
  obtain ⟨u, hu⟩ : ∃ u : Nat, t + k = u := ⟨_, rfl⟩
  have HU := Lib.hid hu
  have iwk : IntKind.i64.wrap ((t : Int) + (k : Int)) = (u : Int) := by rw [IntWalk.i64_in _ ⟨by omega, by omega⟩]; omega
  have i0 : (0 : Int) ≤ (t : Int) := by omega
  have i1 : (t : Int) ≤ (u : Int) := by omega
  have i2 : (u : Int) ≤ (c : Int) := by omega
  clear hu
  go_wp2_with fail
  refine wp_region_still_tail (id := 2) 15 (by kernel_rfl) (by kernel_rfl) ?_
  change wpStill _ _ (World.drew _) (fun a' => wpList _ _ _ _ a' (World.drew _)) _ _
  simp only [List.take_succ_cons, List.take_zero, List.drop_succ_cons, List.drop_zero]
  repeat still_step
  refine wpStill_nil ?_
  have HS : Hid (Sl (w.drewN m).drew 1 _ (u - t) ((u8s bl).drop t |>.take (u - t))) := Lib.hid (Sl.sub1 (t := t) (u := u) (show Sl (w.drewN m).drew 1 (.slice A bl.length c) bl.length (u8s bl) from HB.out.sl) (by have := HU.out; omega) (by have := HU.out; omega))
  have hsz : w.heap.size ≤ (w.drewN m).drew.heap.size := Nat.le_refl _
  have hut : u - t ≤ 1000000 := by have := HU.out; omega
  obtain ⟨A6, hA6⟩ : ∃ x, (if c = t then A else Option.map (fun x => x.add t) A) = x := ⟨_, rfl⟩
  rw [hA6] at HS ⊢
  clear hA6
  go_wp2_with (at_builtin; refine wp_app w.heap.size rfl _ _ 25 5 (.int .u8 0) 1 1 rfl Tryz.underlying25 HI.out rfl (by omega) (by omega) rfl rfl (World.ownsRow_nil _ _ _ _) HS.out (by omega) hsz ?_; intro v7 w7 hown hfr hat; simp only [Nat.zero_add, List.nil_append] at hown; have HO := Lib.hid hown; have HB7 : Hid (Below w.heap.size w w7) := Lib.hid (Frm.below (below_drewN (Below.refl _ _) (m + 1)) hfr hsz (fun g hg => by cases hg)); obtain ⟨A7, c7, rfl⟩ := own_slice' hown; have B7 := H.out.below HB7.out; have c1 := B7.cell 1; have f1 := B7.free 1; simp only [List.getElem?_toArray, List.getElem?_cons_zero, List.getElem?_cons_succ] at c1; clear hown hfr hat B7)
  (try go_wp2_with fail)
  go_ret
  have hgl := H.out.lt
  have hl : ((bl.drop t).take (u - t)).length = u - t := by rw [List.length_take, List.length_drop]; have := HU.out; omega
  refine ⟨_, (bl.drop t).take (u - t), w7, rfl, ⟨?_, fun x hx => HB.out.byt x (List.mem_of_mem_drop (List.mem_of_mem_take hx))⟩, by rw [hl]; have := HU.out; omega, HB7.out, by rw [hl]; have := HU.out; congr 3; omega⟩
  rw [hl, show u8s ((bl.drop t).take (u - t)) = ((u8s bl).drop t).take (u - t) by simp [u8s, List.map_take, List.map_drop]]
  exact own_frm HO.out ((Frm.refl (· = g) w7).setg (i := 1) _) (fun j hj e => by have := (HO.out.lt j hj).1; omega)
end
theorem newinbox_any (n : Int) (w : World) : Calls Tryz.prog 55 #[.int .i64 n] w fun e w' => ∃ g wi, e = .returned (.pointer (some ⟨g, 0, none⟩)) ∧ w.heap.size ≤ g ∧ 1 ≤ wi ∧ wi ≤ 400 ∧ IbC w' g wi 0 (-1) (.slice none 0 0) (.slice none 0 0) ∧ Below w.heap.size w w' := by
  go_enter Tryz.func55, Tryz.ntmps55
  go_wp2_with fail
  refine (clamp_any _ _ _ _).mono ?_
  rintro e _ ⟨rfl, rfl⟩
  obtain ⟨z, hz⟩ : ∃ z, z = mn (mx n 1) 400 := ⟨_, rfl⟩
  have hz2 : 1 ≤ z ∧ z ≤ 400 := by rw [hz]; unfold mn mx; split <;> split <;> omega
  rw [← hz]
  clear hz
  go_wp2_with fail
  go_ret
  exact ⟨_, z, rfl, Nat.le_refl _, hz2.1, hz2.2, Blk.new _ _ _, (Below.refl _ _).alloc (Nat.le_refl _) _⟩
end Go.Proofs.YtdneakejlbabeaaGreat

namespace Go.Proofs.YtdneakejlbabeaaGreat
open Go.RowKit
set_option linter.unusedVariables false
set_option linter.unusedSimpArgs false

theorem mn_le_l (a b : Int) : mn a b ≤ a := by unfold mn; split <;> omega
theorem mn_le_r (a b : Int) : mn a b ≤ b := by unfold mn; split <;> omega
theorem le_mx_l (a b : Int) : a ≤ mx a b := by unfold mx; split <;> omega
theorem le_mx_r (a b : Int) : b ≤ mx a b := by unfold mx; split <;> omega
theorem le_mn {a b c : Int} (h : c ≤ a) (k : c ≤ b) : c ≤ mn a b := by unfold mn; split <;> omega
theorem mx_le {a b c : Int} (h : a ≤ c) (k : b ≤ c) : mx a b ≤ c := by unfold mx; split <;> omega

/-- Ranges that rise. -/
structure Srt (rs : List (Int × Int)) : Prop where
  a : ∀ r ∈ rs, 0 ≤ r.1 ∧ r.1 ≤ r.2
  p : rs.Pairwise (fun a b => a.1 ≤ b.1)
theorem Srt.nil : Srt [] := ⟨(fun r h => absurd h (by simp)), List.Pairwise.nil⟩
theorem addGo_o : ∀ (rs : List (Int × Int)) (p q : Int) (d : Bool) (out : List (Int × Int)), Srt (out ++ rs) → 0 ≤ p → p ≤ q → (d = false → ∀ x ∈ out, x.1 ≤ p) → (d = true → ∀ r ∈ rs, q < r.1) →
    Srt (addGo rs p q d out) ∧ (addGo rs p q d out).length ≤ out.length + rs.length + (if d then 0 else 1) ∧ (∀ M : Int, (∀ r ∈ out ++ rs, r.2 ≤ M) → q ≤ M → ∀ r ∈ addGo rs p q d out, r.2 ≤ M)
  | [], p, q, d, out, hs, h0, hpq, h1, h2 => by
    rw [List.append_nil] at hs
    cases d
    · simp only [addGo, Bool.false_eq_true, if_false]
      refine ⟨⟨fun r hr => ?_, ?_⟩, by simp, fun M hM hq r hr => ?_⟩
      · rcases List.mem_append.1 hr with h | h
        · exact hs.a r h
        · rw [List.mem_singleton] at h; subst h; exact ⟨h0, hpq⟩
      · refine List.pairwise_append.2 ⟨hs.p, List.pairwise_singleton _ _, fun a ha b hb => ?_⟩
        rw [List.mem_singleton] at hb
        subst hb
        exact h1 rfl a ha
      · rcases List.mem_append.1 hr with h | h
        · exact hM r (by simpa using h)
        · rw [List.mem_singleton] at h; subst h; exact hq
    · simp only [addGo, if_true]
      exact ⟨hs, by simp, fun M hM _ r hr => hM r (by simpa using hr)⟩
  | r :: rs, p, q, d, out, hs, h0, hpq, h1, h2 => by
    have hr := hs.a r (by simp)
    have hp := List.pairwise_append.1 hs.p
    have hp2 := List.pairwise_cons.1 hp.2.1
    have e1 : out ++ r :: rs = (out ++ [r]) ++ rs := by simp
    unfold addGo
    by_cases c1 : r.2 < p
    · rw [if_pos c1]
      obtain ⟨g1, g2, g3⟩ := addGo_o rs p q d (out ++ [r]) (by rw [← e1]; exact hs) h0 hpq (fun hd x hx => by
        rcases List.mem_append.1 hx with h | h
        · exact h1 hd x h
        · rw [List.mem_singleton] at h; subst h; omega) (fun hd x hx => h2 hd x (by simp [hx]))
      exact ⟨g1, by simp only [List.length_append, List.length_cons, List.length_nil] at g2 ⊢; omega, fun M hM hq => g3 M (by rw [← e1]; exact hM) hq⟩
    · rw [if_neg c1]
      by_cases c2 : q < r.1
      · rw [if_pos c2]
        have hall : ∀ x ∈ rs, q < x.1 := fun x hx => by have := hp2.1 x hx; omega
        have hs' : Srt (((if d then out else out ++ [(p, q)]) ++ [r]) ++ rs) := by
          cases d
          · simp only [Bool.false_eq_true, if_false]
            refine ⟨fun x hx => ?_, ?_⟩
            · simp only [List.mem_append, List.mem_singleton] at hx
              rcases hx with ((h | h) | h) | h
              · exact hs.a x (by simp [h])
              · subst h; exact ⟨h0, hpq⟩
              · subst h; exact hr
              · exact hs.a x (by simp [h])
            · rw [List.append_assoc, List.append_assoc]
              refine List.pairwise_append.2 ⟨hp.1, ?_, fun a ha b hb => ?_⟩
              · refine List.pairwise_append.2 ⟨List.pairwise_singleton _ _, ?_, fun a ha b hb => ?_⟩
                · simpa using hp.2.1
                · rw [List.mem_singleton] at ha
                  subst ha
                  simp only [List.mem_append, List.mem_singleton] at hb
                  rcases hb with h | h
                  · subst h; simp only; omega
                  · have := hall b h; simp only; omega
              · simp only [List.mem_append, List.mem_singleton] at hb
                rcases hb with h | h | h
                · subst h; exact h1 rfl a ha
                · subst h; exact hp.2.2 a ha _ (by simp)
                · exact hp.2.2 a ha _ (by simp [h])
          · simp only [if_true]
            rw [← e1]
            exact hs
        obtain ⟨g1, g2, g3⟩ := addGo_o rs p q true ((if d then out else out ++ [(p, q)]) ++ [r]) hs' h0 hpq (fun hd => by cases hd) (fun _ => hall)
        refine ⟨g1, ?_, fun M hM hq => g3 M (fun x hx => ?_) hq⟩
        · simp only [if_true, List.length_append, List.length_cons, List.length_nil] at g2 ⊢
          cases d <;> simp at g2 ⊢ <;> omega
        · simp only [List.mem_append, List.mem_singleton] at hx
          rcases hx with (h | h) | h
          · cases d
            · simp only [Bool.false_eq_true, if_false, List.mem_append, List.mem_singleton] at h
              rcases h with h | h
              · exact hM x (by simp [h])
              · subst h; exact hq
            · exact hM x (by simp at h; simp [h])
          · exact hM x (by simp [h])
          · exact hM x (by simp [h])
      · rw [if_neg c2]
        have hd : d = false := by
          cases d
          · rfl
          · exact absurd (h2 rfl r (by simp)) c2
        subst hd
        have hsub : Srt (out ++ rs) := ⟨fun x hx => hs.a x (by rcases List.mem_append.1 hx with h | h <;> simp [h]), List.pairwise_append.2 ⟨hp.1, hp2.2, fun a ha b hb => hp.2.2 a ha b (by simp [hb])⟩⟩
        obtain ⟨g1, g2, g3⟩ := addGo_o rs (mn p r.1) (mx q r.2) false out hsub (le_mn h0 hr.1) (by have := mn_le_l p r.1; have := le_mx_l q r.2; omega) (fun _ x hx => le_mn (h1 rfl x hx) (hp.2.2 x hx r (by simp))) (fun hd => by cases hd)
        refine ⟨g1, by simp only [List.length_cons] at g2 ⊢; omega, fun M hM hq => g3 M (fun x hx => hM x (by rcases List.mem_append.1 hx with h | h <;> simp [h])) (mx_le hq (hM r (by simp)))⟩
theorem addGo_head : ∀ (rs : List (Int × Int)) (p q : Int) (d : Bool) (x : Int × Int) (out : List (Int × Int)), ∃ t, addGo rs p q d (x :: out) = x :: t
  | [], p, q, d, x, out => by cases d <;> simp [addGo]
  | r :: rs, p, q, d, x, out => by
    unfold addGo
    split
    · exact addGo_head rs _ _ _ x (out ++ [r])
    · split
      · cases d
        · exact addGo_head rs p q true x (out ++ [(p, q)] ++ [r])
        · exact addGo_head rs p q true x (out ++ [r])
      · exact addGo_head rs _ _ _ x out
theorem addGo_zero : ∀ (rs : List (Int × Int)) (q : Int), (∀ r ∈ rs, 0 ≤ r.1 ∧ r.1 ≤ r.2) → 0 ≤ q → q ≤ frontL (addGo rs 0 q false [])
  | [], q, _, h => by simp [addGo, frontL]
  | r :: rs, q, h, hq => by
    have hr := h r (by simp)
    unfold addGo
    rw [if_neg (by omega)]
    split
    · obtain ⟨t, ht⟩ := addGo_head rs 0 q true (0, q) [r]
      simp only [Bool.false_eq_true, if_false, List.nil_append, List.cons_append, ht, frontL, if_true, Int.le_refl]
    · rw [show mn 0 r.1 = 0 by unfold mn; split <;> omega]
      have := addGo_zero rs (mx q r.2) (fun x hx => h x (by simp [hx])) (by have := le_mx_l q r.2; omega)
      have := le_mx_l q r.2
      omega
theorem frontL_nonneg {rs : List (Int × Int)} (h : ∀ r ∈ rs, 0 ≤ r.1 ∧ r.1 ≤ r.2) : 0 ≤ frontL rs := by
  cases rs with
  | nil => simp [frontL]
  | cons r rs => have := h r (by simp); simp only [frontL]; split <;> omega
theorem frontL_cons (r : Int × Int) (rs : List (Int × Int)) : frontL (r :: rs) = if r.1 = 0 then r.2 else 0 := rfl
theorem addGo_front {rs : List (Int × Int)} {p q : Int} (hs : Srt rs) (h0 : 0 ≤ p) (hpq : p ≤ q) : frontL rs ≤ frontL (addGo rs p q false []) := by
  have hpos := frontL_nonneg (addGo_o rs p q false [] hs h0 hpq (fun _ x hx => absurd hx (by simp)) (fun hd => by cases hd)).1.a
  cases rs with
  | nil => exact hpos
  | cons r rs =>
    have hr := hs.a r (by simp)
    rw [frontL_cons]
    by_cases c : r.1 = 0
    · rw [if_pos c]
      unfold addGo
      split
      · obtain ⟨t, ht⟩ := addGo_head rs p q false r []
        simp only [List.nil_append, ht, frontL_cons, if_pos c, Int.le_refl]
      · split
        · omega
        · rw [show mn p r.1 = 0 by unfold mn; split <;> omega]
          have := addGo_zero rs (mx q r.2) (fun x hx => hs.a x (by simp [hx])) (by have := le_mx_l q r.2; omega)
          have := le_mx_r q r.2
          omega
    · rw [if_neg c]
      exact hpos
structure AddO (rs rs' : List (Int × Int)) (t : Int) : Prop where
  s : Srt rs'
  len : rs'.length ≤ rs.length + 1
  front : frontL rs ≤ frontL rs'
  top : ∀ M : Int, (∀ r ∈ rs, r.2 ≤ M) → t ≤ M → ∀ r ∈ rs', r.2 ≤ M
theorem setAdd_o {rs : List (Int × Int)} (f t : Int) (hs : Srt rs) : AddO rs (setAdd f t rs) t := by
  unfold setAdd
  have h0 := le_mx_r f 0
  split
  · rename_i hlt
    obtain ⟨g1, g2, g3⟩ := addGo_o rs (mx f 0) (mn t 1099511627776) false [] hs h0 (by omega) (fun _ x hx => absurd hx (by simp)) (fun hd => by cases hd)
    exact ⟨g1, by simpa using g2, addGo_front hs h0 (by omega), fun M hM ht => g3 M (by simpa using hM) (by have := mn_le_l t 1099511627776; omega)⟩
  · exact ⟨hs, by omega, Int.le_refl _, fun M hM _ => hM⟩
structure CutO (rs rs' : List (Int × Int)) (t : Int) : Prop where
  s : Srt rs'
  len : rs'.length ≤ rs.length
  low : ∀ m : Int, (∀ r ∈ rs, m ≤ r.1) → ∀ r ∈ rs', m ≤ r.1
theorem cutAll_o : ∀ (f t : Int) (rs : List (Int × Int)), 0 ≤ t → Srt rs → (∀ r ∈ rs, f ≤ r.1) → CutO rs (cutAll f t rs) t ∧ ∀ r ∈ cutAll f t rs, t ≤ r.1
  | f, t, [], h0, hs, hf => ⟨⟨Srt.nil, Nat.le_refl _, fun m _ r hr => absurd hr (by simp [cutAll])⟩, fun r hr => absurd hr (by simp [cutAll])⟩
  | f, t, r :: rs, h0, hs, hf => by
    have hp := List.pairwise_cons.1 hs.p
    have hr := hs.a r (by simp)
    obtain ⟨⟨g1, g2, g3⟩, g4⟩ := cutAll_o f t rs h0 ⟨fun x hx => hs.a x (by simp [hx]), hp.2⟩ (fun x hx => hf x (by simp [hx]))
    have e : cutOne f t r = if t < r.2 then [(mx r.1 t, r.2)] else [] := by
      unfold cutOne
      rw [if_neg (by have := hf r (by simp); omega)]
      rfl
    simp only [cutAll, e]
    split
    · rename_i hlt
      have k0 := le_mx_l r.1 t
      have hlow : ∀ x ∈ cutAll f t rs, mx r.1 t ≤ x.1 := fun x hx => mx_le (g3 r.1 (fun x hx => hp.1 x hx) x hx) (g4 x hx)
      refine ⟨⟨⟨fun x hx => ?_, ?_⟩, by simp only [List.length_append, List.length_cons, List.length_nil]; omega, fun m hm x hx => ?_⟩, fun x hx => ?_⟩
      · rcases List.mem_append.1 hx with h | h
        · rw [List.mem_singleton] at h; subst h; exact ⟨by simp only; omega, by simp only; exact mx_le hr.2 (by omega)⟩
        · exact g1.a x h
      · rw [List.singleton_append]
        exact List.pairwise_cons.2 ⟨hlow, g1.p⟩
      · rcases List.mem_append.1 hx with h | h
        · rw [List.mem_singleton] at h; subst h; have := hm r (by simp); simp only; omega
        · exact g3 m (fun y hy => hm y (by simp [hy])) x h
      · rcases List.mem_append.1 hx with h | h
        · rw [List.mem_singleton] at h; subst h; exact le_mx_r _ _
        · exact g4 x h
    · exact ⟨⟨g1, by simp only [List.nil_append, List.length_cons]; omega, fun m hm => g3 m (fun y hy => hm y (by simp [hy]))⟩, g4⟩
theorem setCut_o {rs : List (Int × Int)} (f t : Int) (hs : Srt rs) (hf : ∀ r ∈ rs, f ≤ r.1) : Srt (setCut f t rs) ∧ (setCut f t rs).length ≤ rs.length := by
  unfold setCut
  have h0 := le_mx_r f 0
  split
  · rename_i hlt
    obtain ⟨h, _⟩ := cutAll_o (mx f 0) (mn t 1099511627776) rs (by omega) hs (fun r hr => mx_le (hf r hr) (hs.a r hr).1)
    exact ⟨h.s, h.len⟩
  · exact ⟨hs, Nat.le_refl _⟩
theorem Srt.head {r : Int × Int} {rs : List (Int × Int)} (h : Srt (r :: rs)) : ∀ x ∈ r :: rs, r.1 ≤ x.1 := fun x hx => by
  rcases List.mem_cons.1 hx with h1 | h1
  · subst h1; exact Int.le_refl _
  · exact (List.pairwise_cons.1 h.p).1 x h1
end Go.Proofs.YtdneakejlbabeaaGreat
