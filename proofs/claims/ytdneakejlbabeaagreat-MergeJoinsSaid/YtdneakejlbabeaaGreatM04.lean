/- Parts of the walk: Eg, De, Dh. -/
import Derived.Test.YtdneakejlbabeaaGreatM00
import Derived.Deep.AppendLies
import Derived.Test.YtdneakejlbabeaaGreatM03
namespace Go.Proofs.YtdneakejlbabeaaGreat
open Go.RowKit
set_option linter.unusedVariables false
set_option linter.unusedSimpArgs false
section
attribute [local go_sem] run_max2 run_min2 run_max_ run_min_
/-- The paths that can be used, of the first k. -/
def usN (ms : List Int) (k : Nat) : List Int := ((List.range k).filter fun i => decide (0 ≤ ms.getD i 0)).map fun i : Nat => (i : Int)
theorem usN_zero (ms : List Int) : usN ms 0 = [] := rfl
theorem usN_yes (ms : List Int) (k : Nat) (h : 0 ≤ ms.getD k 0) : usN ms (k + 1) = usN ms k ++ [(k : Int)] := by
 have e : List.filter (fun i => decide (0 ≤ ms.getD i 0)) [k] = [k] := by rw [List.filter_cons_of_pos (by simpa using h)]; rfl
 rw [usN, List.range_succ, List.filter_append, e, List.map_append]
 rfl
theorem usN_no (ms : List Int) (k : Nat) (h : ¬ 0 ≤ ms.getD k 0) : usN ms (k + 1) = usN ms k := by
 have e : List.filter (fun i => decide (0 ≤ ms.getD i 0)) [k] = [] := by rw [List.filter_cons_of_neg (by simpa using h)]; rfl
 rw [usN, List.range_succ, List.filter_append, e, List.append_nil]
 rfl
theorem usN_length (ms : List Int) (k : Nat) : (usN ms k).length ≤ k := by
 unfold usN
 rw [List.length_map]
 exact Nat.le_trans (List.length_filter_le _ _) (by simp)
theorem usN_mem (ms : List Int) (k : Nat) (x : Int) : x ∈ usN ms k ↔ 0 ≤ x ∧ x < k ∧ 0 ≤ ms.getD x.toNat 0 := by
 simp only [usN, List.mem_map, List.mem_filter, List.mem_range, decide_eq_true_eq]
 constructor
 ·rintro ⟨i, ⟨h1, h2⟩, rfl⟩
  exact ⟨by omega, by omega, by simpa using h2⟩
 ·rintro ⟨h0, h1, h2⟩
  exact ⟨x.toNat, ⟨by omega, h2⟩, by omega⟩
/-- The place of the first path from a place on; at the list's length: there is none. -/
def idN (nx : Int) (l : List Int) : Nat := l.findIdx fun p => decide (nx ≤ p)
/-- The path that is next. -/
def rdN (nx : Int) (l : List Int) : Int := if idN nx l < l.length then l.getD (idN nx l) 0 else l.getD 0 0
/-- The quickest of the first k paths, from one on. -/
def bsN (ms : List Int) (l : List Int) (k : Nat) : Int := (l.take k).foldl (fun b p => if ms.getD p.toNat 0 < ms.getD b.toNat 0 then p else b) (l.getD 0 0)
theorem bsN_zero (ms l : List Int) : bsN ms l 0 = l.getD 0 0 := by simp [bsN]
theorem bsN_succ (ms l : List Int) (k : Nat) (h : k < l.length) : bsN ms l (k + 1) = if ms.getD (l.getD k 0).toNat 0 < ms.getD (bsN ms l k).toNat 0 then l.getD k 0 else bsN ms l k := by
 have e : l.take (k + 1) = l.take k ++ [l.getD k 0] := by
  rw [List.take_succ_eq_append_getElem h, List.getD_eq_getElem?_getD, List.getElem?_eq_getElem h]
  rfl
 unfold bsN
 rw [e, List.foldl_append]
 rfl
theorem bsN_mem (ms l : List Int) (h : 0 < l.length) : ∀ k, k ≤ l.length → bsN ms l k ∈ l
 | 0, _ => by
  rw [bsN_zero, List.getD_eq_getElem?_getD, List.getElem?_eq_getElem h]
  exact List.getElem_mem _
 | k + 1, hk => by
  rw [bsN_succ ms l k hk]
  split
  ·rw [List.getD_eq_getElem?_getD, List.getElem?_eq_getElem hk]
   exact List.getElem_mem _
  ·exact bsN_mem ms l h k (by omega)
/-- What Pick answers, and where it goes on. -/
def pkN (kind nx : Int) (ms : List Int) : List Int :=
 let l := usN ms ms.length
 if l = [] ∨ kind = 3 then l else if kind = 2 then [rdN nx l] else [bsN ms l l.length]
def nxN (kind nx : Int) (ms : List Int) : Int :=
 let l := usN ms ms.length
 if l = [] ∨ kind = 3 then nx else if kind = 2 then rdN nx l + 1 else nx
theorem rdN_mem (nx : Int) (l : List Int) (h : 0 < l.length) : rdN nx l ∈ l := by
 unfold rdN
 split
 ·rename_i h1
  rw [List.getD_eq_getElem?_getD, List.getElem?_eq_getElem h1]
  exact List.getElem_mem _
 ·rw [List.getD_eq_getElem?_getD, List.getElem?_eq_getElem h]
  exact List.getElem_mem _
theorem Tryz.info3 : (Tryz.prog.info? 3).map (fun i => (i.zero, i.size, i.bytes)) = some (some (.int .i64 0), 1, 8) := by kernel_rfl
theorem ret_int {k : IntKind} {a b : Int} (h : a = b) : Ending.returned (.int k a) = .returned (.int k b) := by rw [h]
def i64s (l : List Int) : List Value := l.map fun n : Int => .int .i64 n
theorem i64s_one (l : List Int) : ∀ u ∈ i64s l, u.oneCell' = true := by simp [i64s, Value.oneCell']
theorem i64s_getD (l : List Int) (i : Nat) (h : i < l.length) : (i64s l).getD i undef = .int .i64 (l.getD i 0) := by
 simp [i64s, List.getD_eq_getElem?_getD, h]
theorem sl_len {w : World} {v : Value} {n : Nat} {l : List Int} (h : Sl w 1 v n (i64s l)) : l.length = n := by
 obtain ⟨_, _, _, _, _, h, _⟩ := h
 simpa [i64s] using h
theorem idN_go (nx : Int) (l : List Int) (k : Nat) (hk : k ≤ idN nx l) (h : k < l.length) : idN nx l = if nx ≤ l.getD k 0 then k else idN nx l := by
 split
 ·rename_i h1
  rcases Nat.lt_or_ge k (idN nx l) with h2 | h2
  ·have := List.not_of_lt_findIdx h2
   rw [List.getD_eq_getElem?_getD, List.getElem?_eq_getElem h] at h1
   simp at this h1
   omega
  ·omega
 ·rfl
theorem idN_step (nx : Int) (l : List Int) (k : Nat) (hk : k ≤ idN nx l) (h : k < l.length) (h1 : ¬ nx ≤ l.getD k 0) : k + 1 ≤ idN nx l := by
 rcases Nat.lt_or_ge k (idN nx l) with h2 | h2
 ·exact h2
 ·exfalso
  have he : idN nx l = k := by omega
  have := List.findIdx_getElem (xs := l) (p := fun p => decide (nx ≤ p)) (w := by show idN nx l < l.length; omega)
  rw [List.getD_eq_getElem?_getD, List.getElem?_eq_getElem h] at h1
  simp at this h1
  unfold idN at he
  simp only [he] at this
  omega
theorem us_bound (ms : List Int) (n : Nat) (hn : n ≤ 1000000) : ∀ x ∈ usN ms n, 0 ≤ x ∧ x ≤ 1000000 := fun x hx => by
 have := (usN_mem ms n x).1 hx
 omega
theorem i64s_get (l : List Int) (q : Nat) (h : q < l.length) : (i64s l)[q]? = some (.int .i64 (l.getD q 0)) := by
 simp [i64s, List.getD_eq_getElem?_getD, List.getElem?_eq_getElem h]
theorem sl_cell {w : World} {g n c i : Nat} {l : List Int} (h : Sl w 1 (.slice (some ⟨g, 0, none⟩) n c) n (i64s l)) (hi : i < n) : w.cell? ⟨g, i, none⟩ = some (.int .i64 (l.getD i 0)) := by
 obtain ⟨ad, e, hc⟩ := h.at_ hi
 injection e with e
 subst e
 have ha : (⟨g, 0, none⟩ : Addr).add i = ⟨g, i, none⟩ := by unfold Addr.add; split <;> simp_all
 rw [ha] at hc
 rw [hc, i64s_getD _ _ (by rw [sl_len h]; exact hi)]
theorem within_any (v n : Int) (w : World) (hn : 0 < n) (hn2 : n ≤ 1000000) : Calls Tryz.prog 8 #[.int .i64 v, .int .i64 n] w fun e w' => e = .returned (.int .i64 (v % n)) ∧ w = w' := by
 have h1 : ¬ n < 1 := by omega
 have h2 : ¬ n = 0 := by omega
 have hz : (n == 0) = false := by simpa using h2
 by_cases h : v.tmod n < 0
 ·have e : v.tmod n + n = v % n := by
   rw [Int.tmod_eq_emod]
   have := Int.emod_nonneg v h2
   rw [Int.tmod_eq_emod] at h
   split at h <;> split <;> omega
  have l : -n < v.tmod n := by
   have := Int.emod_nonneg v h2
   have := Int.emod_lt_of_pos v hn
   rw [Int.tmod_eq_emod]
   split <;> omega
  have E := hid e
  clear e
  go_enter Tryz.func8, Tryz.ntmps8
  go_wp2
  go_ret
  exact ⟨ret_int E.out, rfl⟩
 ·have e : v.tmod n = v % n := by
   have := Int.emod_nonneg v h2
   have := Int.emod_lt_of_pos v hn
   rw [Int.tmod_eq_emod] at h ⊢
   split at h <;> split <;> omega
  have E := hid e
  clear e
  go_enter Tryz.func8, Tryz.ntmps8
  go_wp2
  go_ret
  exact ⟨ret_int E.out, rfl⟩
/-- A chooser. -/
def Rch (w : World) (g : Nat) (k la : Int) : Prop := Blk w g #[.int .i64 k, .int .i64 la] 156
theorem Rch.set1 {w : World} {g : Nat} {k nx : Int} (h : Rch w g k nx) (x : Int) : Rch (w.setCell ⟨g, 1, none⟩ (.int .i64 x)) g k x := by
 have := Blk.set h 1 (.int .i64 x)
 simpa [Rch] using this
/-- What a call of the reference's Pick leaves. -/
def PickedR (w w' : World) (g : Nat) (kd la : Int) (l : List Int) (e : Ending) : Prop :=
 ∃ v, e = .returned v ∧ w'.ownsRow w.heap.size 3 1 v l.length (i64s l) ∧ Rch w' g kd la ∧ Frm (· = g) w w'
theorem setCell_size (w : World) (p : Addr) (u : Value) : (w.setCell p u).heap.size = w.heap.size := by simp [World.setCell]
theorem own_box_at (w : World) (z : Int) (base h : Nat) (hh : h = w.heap.size) (hb : base ≤ w.heap.size) : (w.alloc (.cells #[.int .i64 z] 3)).ownsRow base 3 1 (.slice (some ⟨h, 0, none⟩) 1 1) [z].length (i64s [z]) := hh ▸ World.ownsRow_lit w _ 1 hb (by simp [maxLen]) rfl
set_option maxHeartbeats 4000000 in
theorem refpick_any (v : Value) (n : Nat) (ms : List Int) (g : Nat) (kd la nx : Int) (w : World) (hs : Sl w 1 v n (i64s ms)) (h : Rch w g kd la) (hn : n ≤ 1000000) (hnx : nx = la + 1) (hsg : ∀ j, v.ownBlock = some j → j ≠ g)
  (pl : List Int) (pn : Int) (hpl : pl = pkN kd nx ms) (hpn : pn = nxN kd nx ms - 1) :
  Calls Tryz.prog 94 #[.pointer (some ⟨g, 0, none⟩), v] w fun e w' => PickedR w w' g kd pn pl e := by
 have hl := sl_len hs
 have HL := hid hl
 have HNX := hid hnx
 have hub := us_bound ms n hn
 have HUB := hid hub
 have hul := usN_length ms n
 have hms : usN ms ms.length = usN ms n := by rw [hl]
 unfold pkN at hpl
 unfold nxN at hpn
 simp only [hms] at hpl hpn
 have HPL := hid hpl
 have HPN := hid hpn
 clear hpl hpn
 have H := hid h
 have HS := hid hs
 have HG := hid hsg
 have HI := hid Tryz.info3
 have lg := h.lt
 obtain ⟨A, c, rfl, _, _⟩ := hs.len
 clear hs h hsg hl hub hms hnx
 obtain ⟨m, hm⟩ := lx ((usN ms n).length)
 have HM := hid hm
 have hmn : m ≤ n := by omega
 clear hul hm
 go_enter Tryz.func94, Tryz.ntmps94
 go_wp2_with fail
 go_loopw [5, 15] (fun v i wr => ∃ k : Nat, k ≤ n ∧ i = .int .i64 k ∧ wr.ownsRow w.heap.size 3 1 v (usN ms k).length (i64s (usN ms k)) ∧ Below w.heap.size w wr) (fun _ i _ => n - (intOf i).toNat)
 case atStart => exact ⟨0, by omega, rfl, World.ownsRow_nil _ _ _ _, Below.refl _ _⟩
 case round =>
  obtain ⟨k, hk, rfl, ho, hb⟩ := hrel
  have HO := hid ho
  have HB := hid hb
  have sz := hb.size
  clear ho hb
  by_cases hlt : k < n
  ·obtain ⟨x, rfl, cx⟩ := HS.out.at_ hlt
   rw [i64s_getD _ _ (by rw [HL.out]; exact hlt)] at cx
   have cx2 := (HB.out.cell (World.block_lt_of_cell? w _ cx)).trans cx
   have hlen := usN_length ms k
   by_cases hz : 0 ≤ ms.getD k 0
   ·have hu := usN_yes ms k hz
    have HU := hid hu
    generalize ms.getD k 0 = z at *
    clear hu cx
    go_wp2_with (at_builtin; refine wp_app w.heap.size rfl _ _ 66 3 (.int .i64 0) 1 8 rfl Tryz.underlying66 HI.out rfl (by omega) (by omega) rfl rfl (HO.out.alloc _) (Sl.one _ _ _ rfl) (by omega) (Nat.le_trans sz (by simp)) ?_; intro v1 w1 hown hfr hat)
    have HO1 : Hid (w1.ownsRow w.heap.size 3 1 v1 (usN ms (k + 1)).length (i64s (usN ms (k + 1)))) := by
     rw [HU.out, List.length_append, i64s, List.map_append]
     exact hown
    have HB1 : Hid (Below w.heap.size w w1) := Frm.below (HB.out.alloc sz _) hfr (Nat.le_trans sz (by simp)) (fun g hg => (HO.out.lt g hg).1)
    clear hown hfr hat
    go_wp2_with fail
    go_roundw
    case rel => exact ⟨k + 1, by omega, by go_num, HO1.out, HB1.out⟩
    case measure => simp [intOf]; omega
   ·have hu := usN_no ms k hz
    have HO1 : Hid (wr.ownsRow w.heap.size 3 1 u5 (usN ms (k + 1)).length (i64s (usN ms (k + 1)))) := by rw [hu]; exact HO.out
    generalize ms.getD k 0 = z at *
    clear hu cx
    go_wp2_with fail
    go_roundw
    case rel => exact ⟨k + 1, by omega, by go_num, HO1.out, HB.out⟩
    case measure => simp [intOf]; omega
  ·obtain rfl : n = k := by omega
   have hpl := HPL.out
   have hpn := HPN.out
   clear HPL HPN
   generalize hu : usN ms n = l at *
   have HU := hid hu
   obtain ⟨A1, c1, rfl⟩ := own_slice' HO.out
   have H1 := hid (Blk.below H.out (HB.out.mono (Nat.le_refl _)))
   have HF := hid (Frm.of_below (S := (· = g)) HB.out)
   have cc := Blk.cell H1.out 0
   have ca := Blk.cell H1.out 1
   have fa := Blk.free H1.out 1
   simp at cc ca
   have hml := HM.out
   by_cases hl0 : l = []
   ·rw [if_pos (.inl hl0)] at hpl hpn
    subst hl0
    have HE : Hid (pl = [] ∧ pn = la) := ⟨hpl, by have := HNX.out; omega⟩
    clear hu hml hpl hpn
    go_wp2_with fail
    go_ret
    exact ⟨_, rfl, HE.out.1 ▸ HO.out, HE.out.2 ▸ H1.out, HF.out⟩
   ·have m0 : 0 < m := by
     rw [hml]
     exact List.length_pos_iff.2 hl0
    have mz : ((m : Int) == 0) = false := by simp; omega
    have mm : (0 : Int) < (m : Int) := by omega
    have HO2 := HO
    rw [← hml] at HO2
    obtain ⟨g1, c1', he, hg1, _⟩ := HO2.out.form m0
    rw [← hml]
    injection he with e1 e2 e3
    subst e1
    subst e3
    have cl := HO2.out.cellAt 0 (by omega)
    rw [i64s_get _ _ (by rw [← hml]; exact m0)] at cl
    have HSL := hid (Sl.of_own HO2.out (i64s_one _))
    obtain ⟨l0, hl0'⟩ := lx (l.getD 0 0)
    rw [← hl0'] at cl
    have HL0 := hid hl0'
    have hkk : (kd = 3 ∨ kd = 2) ∨ (¬ kd = 3 ∧ ¬ kd = 2) := by omega
    rcases hkk with (h3 | h2) | ⟨h3, h2⟩
    ·rw [if_pos (.inr h3)] at hpl hpn
     have k3 : (kd == 3) = true := by simpa using h3
     have HE : Hid (pl = l ∧ pn = la) := ⟨hpl, by have := HNX.out; omega⟩
     clear hl0 hu hml h3 hl0' e2 cl HO hpl hpn
     go_wp2_with fail
     go_ret
     exact ⟨_, rfl, by rw [HE.out.1, ← HM.out]; exact HO2.out, HE.out.2 ▸ H1.out, HF.out⟩
    ·have hnc : ¬ (l = [] ∨ kd = 3) := fun h => h.elim hl0 (fun h => by omega)
     rw [if_neg hnc, if_pos h2] at hpl hpn
     have HE : Hid (pl = [rdN nx l] ∧ pn = rdN nx l) := ⟨hpl, by omega⟩
     have k3 : (kd == 3) = false := by simp; omega
     have k2 : (kd == 2) = true := by simpa using h2
     clear hl0 hu hml h2 hnc hl0' e2 HO hpl hpn
     go_wp2_with fail
     go_loop [8, 48] (fun b i => ∃ j : Nat, j ≤ m ∧ i = .int .i64 j ∧ b = .int .i64 l0 ∧ j ≤ idN nx l) (fun _ i => m - (intOf i).toNat)
     case atStart => exact ⟨0, by omega, rfl, rfl, by omega⟩
     case round =>
      obtain ⟨j, hj, rfl, rfl, hid⟩ := hrel
      by_cases hlt2 : j < m
      ·have cj := sl_cell HSL.out (i := j) hlt2
       have j1 : (j : Int) < (m : Int) := by omega
       have j0 : (0 : Int) ≤ (j : Int) := by omega
       by_cases hz : nx ≤ l.getD j 0
       ·have he : idN nx l = j := by rw [idN_go nx l j hid (by rw [← HM.out]; exact hlt2), if_pos hz]
        have HZ : Hid (rdN nx l = l.getD j 0) := by
         unfold rdN
         rw [he, if_pos (by rw [← HM.out]; exact hlt2)]
         exact rfl
        have hz2 : la < l.getD j 0 := by have := HNX.out; omega
        clear he hid hz
        generalize l.getD j 0 = z at *
        go_wp2_with fail
        go_ret
        exact ⟨_, rfl, by rw [HE.out.1, HZ.out]; exact own_box_at _ _ _ _ (setCell_size _ _ _).symm (Nat.le_trans HB.out.size (Nat.le_of_eq (setCell_size _ _ _).symm)), (by rw [HE.out.2, HZ.out]; exact (Rch.set1 H1.out _).alloc _), (HF.out.setg _).alloc _⟩
       ·have he := idN_step nx l j hid (by rw [← HM.out]; exact hlt2) hz
        have hz2 : ¬ la < l.getD j 0 := by have := HNX.out; omega
        clear hz
        generalize l.getD j 0 = z at *
        go_wp2_with fail
        go_round
        case rel => exact ⟨j + 1, by omega, by go_num, rfl, he⟩
        case measure => simp [intOf]; omega
      ·obtain rfl : m = j := by omega
       have HZ : Hid (rdN nx l = l0) := by
        unfold rdN
        rw [if_neg (by rw [← HM.out]; omega)]
        exact HL0.out.symm
       go_wp2_with fail
       go_ret
       exact ⟨_, rfl, by rw [HE.out.1, HZ.out]; exact own_box_at _ _ _ _ (setCell_size _ _ _).symm (Nat.le_trans HB.out.size (Nat.le_of_eq (setCell_size _ _ _).symm)), (by rw [HE.out.2, HZ.out]; exact (Rch.set1 H1.out _).alloc _), (HF.out.setg _).alloc _⟩
    ·have hnc : ¬ (l = [] ∨ kd = 3) := fun h => h.elim hl0 (fun h => by omega)
     rw [if_neg hnc, if_neg h2] at hpl hpn
     rw [← HM.out] at hpl
     have HE : Hid (pl = [bsN ms l m] ∧ pn = la) := ⟨hpl, by have := HNX.out; omega⟩
     have k3 : (kd == 3) = false := by simp; omega
     have k2 : (kd == 2) = false := by simp; omega
     have HS1 := hid (HS.out.below HB.out)
     clear hl0 hu hml h2 h3 hnc hl0' e2 HO hpl hpn
     go_wp2_with fail
     go_loopw [8, 68] (fun b i wq => ∃ j d : Nat, j ≤ m ∧ i = .int .i64 j ∧ b = .int .i64 (bsN ms l j) ∧ wq = wr.drewN d) (fun _ i _ => m - (intOf i).toNat)
     case atStart => exact ⟨0, 0, by omega, rfl, by rw [bsN_zero, HL0.out], rfl⟩
     case round =>
      clear cl cc ca mz mm
      obtain ⟨j, d, hj, rfl, rfl, rfl⟩ := hrel
      by_cases hlt2 : j < m
      ·have hbm := HUB.out _ (bsN_mem ms l (by rw [← HM.out]; exact m0) j (by rw [← HM.out]; exact hj))
       have hbu := (usN_mem ms n (bsN ms l j)).1 (by rw [HU.out]; exact bsN_mem ms l (by rw [← HM.out]; exact m0) j (by rw [← HM.out]; exact hj))
       have hpu := (usN_mem ms n (l.getD j 0)).1 (by rw [HU.out, List.getD_eq_getElem?_getD, List.getElem?_eq_getElem (by rw [← HM.out]; exact hlt2)]; exact List.getElem_mem _)
       have hst := bsN_succ ms l j (by rw [← HM.out]; exact hlt2)
       have cj := sl_cell HSL.out (i := j) hlt2
       obtain ⟨pb, hpb⟩ : ∃ pb : Nat, bsN ms l j = (pb : Int) := ⟨(bsN ms l j).toNat, by omega⟩
       obtain ⟨pj, hpj⟩ : ∃ pj : Nat, l.getD j 0 = (pj : Int) := ⟨(l.getD j 0).toNat, by omega⟩
       have hbn : pb < n := by omega
       have hjn : pj < n := by omega
       rw [hpj] at cj
       rw [hpb, hpj, Int.toNat_natCast, Int.toNat_natCast] at hst
       rw [hpb]
       have HST := hid hst
       clear hbm hbu hpu hst hpb hpj
       obtain ⟨x, rfl, cx⟩ := HS1.out.at_ hbn
       obtain ⟨x', e', cy⟩ := HS1.out.at_ hjn
       injection e' with e'
       subst e'
       rw [i64s_getD _ _ (by rw [HL.out]; exact hbn)] at cx
       rw [i64s_getD _ _ (by rw [HL.out]; exact hjn)] at cy
       obtain ⟨xb, hxb⟩ := lx (ms.getD pb 0)
       obtain ⟨xj, hxj⟩ := lx (ms.getD pj 0)
       rw [← hxb] at cx
       rw [← hxj] at cy
       have HST2 : Hid (bsN ms l (j + 1) = if xj < xb then (pj : Int) else (pb : Int)) := by rw [hxb, hxj]; exact HST.out
       have i1 : (pb : Int) < (n : Int) := by omega
       have i2 : (pj : Int) < (n : Int) := by omega
       have i3 : (j : Int) < (m : Int) := by omega
       have i4 : (0 : Int) ≤ (pb : Int) := by omega
       have i5 : (0 : Int) ≤ (pj : Int) := by omega
       have i6 : (0 : Int) ≤ (j : Int) := by omega
       clear hxb hxj HST
       by_cases hlx : xj < xb
       ·have HQ : Hid (bsN ms l (j + 1) = (pj : Int)) := by have := HST2.out; rwa [if_pos hlx] at this
        go_wp2_with fail
        go_quiet (fail)
        go_wp2_with fail
        go_roundw
        case rel => exact ⟨j + 1, _, by omega, by go_num, by rw [HQ.out], rfl⟩
        case measure => simp [intOf]; omega
       ·have HQ : Hid (bsN ms l (j + 1) = (pb : Int)) := by have := HST2.out; rwa [if_neg hlx] at this
        have hlx2 : decide (xj < xb) = false := decide_eq_false hlx
        go_wp2_with fail
        go_quiet (fail)
        go_wp2_with fail
        go_roundw
        case rel => exact ⟨j + 1, _, by omega, by go_num, by rw [HQ.out], rfl⟩
        case measure => simp [intOf]; omega
      ·obtain rfl : m = j := by omega
       go_wp2_with fail
       go_ret
       have hf : Frm (· = g) w (wr.drewN d) := HF.out.drewN d
       exact ⟨_, rfl, by rw [HE.out.1]; exact World.ownsRow_lit (wr.drewN d) _ 1 HB.out.size (by simp [maxLen]) rfl, (by rw [HE.out.2]; exact (H1.out.drewN d).alloc _), hf.alloc _⟩
end

section
attribute [local go_sem] run_max2' run_min2' run_max_ run_min_
/-- What is left of a range. -/
def cutOne (f t : Int) (r : Int × Int) : List (Int × Int) := (if r.1 < f then [(r.1, mn r.2 f)] else []) ++ (if t < r.2 then [(mx r.1 t, r.2)] else [])
def cutAll (f t : Int) : List (Int × Int) → List (Int × Int)
 | [] => []
 | r :: rs => cutOne f t r ++ cutAll f t rs
theorem cutAll_snoc (f t : Int) : ∀ (rs : List (Int × Int)) (r : Int × Int), cutAll f t (rs ++ [r]) = cutAll f t rs ++ cutOne f t r
 | [], r => by simp [cutAll]
 | x :: rs, r => by simp [cutAll, cutAll_snoc f t rs r]
theorem cutAll_len (f t : Int) : ∀ rs : List (Int × Int), (cutAll f t rs).length ≤ rs.length * 2
 | [] => Nat.le_refl _
 | r :: rs => by
  have := cutAll_len f t rs
  simp only [cutAll, cutOne, List.length_append, List.length_cons]
  split <;> split <;> simp <;> omega
def setCut (f t : Int) (rs : List (Int × Int)) : List (Int × Int) := if mx f 0 < mn t 1099511627776 then cutAll (mx f 0) (mn t 1099511627776) rs else rs
/-- A cell was given another value, behind new memory alone. -/
def SetTo (gs k : Nat) (v' : Value) (w w' : World) : Prop := ∃ wz, Below w.heap.size w wz ∧ (w' = wz.setCell ⟨gs, k, none⟩ v' ∨ (w' = wz ∧ w.cell? ⟨gs, k, none⟩ = some v'))
structure SetR (w : World) (gs k : Nat) (v : Value) (rs' : List (Int × Int)) (e : Ending) (w' : World) : Prop where
 r : e = .returned (.tuple #[])
 x : ∃ v', SetTo gs k v' w w' ∧ RR w' v' rs' ∧ (v' = v ∨ ∀ j, v'.ownBlock = some j → w.heap.size ≤ j ∧ j < w'.heap.size)
set_option maxHeartbeats 8000000 in
set_option maxRecDepth 100000 in
theorem setcut_any (w : World) (gs k : Nat) (v : Value) (rs : List (Int × Int)) (f t : Int) (hc : w.cell? ⟨gs, k, none⟩ = some v) (hf : w.frozen? ⟨gs, k, none⟩ = false) (hr : RR w v rs) (hl : rs.length ≤ 100000000) :
  Calls Tryz.prog 109 #[.pointer (some ⟨gs, k, none⟩), .int .i64 f, .int .i64 t] w fun e w' => SetR w gs k v (setCut f t rs) e w' := by
 obtain ⟨A, c, rfl, _, _⟩ := hr.len
 have H := hid hr
 have HI := hid Tryz.info171
 have hgs := World.block_lt_of_cell? w _ hc
 simp only at hgs
 clear hr
 obtain ⟨x, hx⟩ : ∃ x, mx f 0 = x := ⟨_, rfl⟩
 obtain ⟨y, hy⟩ : ∃ y, mn t 1099511627776 = y := ⟨_, rfl⟩
 unfold setCut
 rw [hx, hy]
 have HX := hid hx
 have HY := hid hy
 clear hx hy
 by_cases hxy : x < y
 ·rw [if_pos hxy]
  go_enter Tryz.func109, Tryz.ntmps109
  go_wp2_with fail
  refine (clip_any f t w).mono ?_
  rintro e _ ⟨rfl, rfl⟩
  rw [HX.out, HY.out, decide_eq_true hxy]
  go_wp2_with fail
  go_loopw [7, 24] (fun o i wr => ∃ j : Nat, j ≤ rs.length ∧ i = .int .i64 j ∧ OR w.heap.size wr o (cutAll x y (rs.take j)) ∧ Below w.heap.size w wr) (fun _ i _ => rs.length - (intOf i).toNat)
  case atStart => exact ⟨0, Nat.zero_le _, rfl, World.ownsRow_nil _ _ _ _, Below.refl _ _⟩
  case round =>
   obtain ⟨j, hj, rfl, hor, hb⟩ := hrel
   have HO := hid hor
   have BR := hid hb
   have sr : w.heap.size ≤ wr.heap.size := hb.size
   obtain ⟨A0, c0, rfl⟩ := own_slice' hor
   have hcl := cutAll_len x y (rs.take j)
   rw [List.length_take] at hcl
   clear hor hb
   by_cases hjl : j < rs.length
   ·have j0 : (0 : Int) ≤ (j : Int) := by omega
    have j1 : (j : Int) < (rs.length : Int) := by omega
    have iwj : IntKind.i64.wrap ((j : Int) + 1) = (j : Int) + 1 := iX
    obtain ⟨ad, rfl, d0, d1⟩ := RR.at_ (H.out.below BR.out) hjl
    obtain ⟨r, hr⟩ : ∃ r, rs[j] = r := ⟨_, rfl⟩
    have HT : Hid (cutAll x y (rs.take (j + 1)) = cutAll x y (rs.take j) ++ cutOne x y r) := hid (by rw [List.take_add_one, List.getElem?_eq_getElem hjl, hr]; exact cutAll_snoc x y _ r)
    rw [hr] at d0 d1
    obtain ⟨a, b⟩ := r
    simp only at d0 d1
    clear hr
    obtain ⟨ls, hls⟩ : ∃ l, cutAll x y (rs.take j) = l := ⟨_, rfl⟩
    rw [hls] at HO HT hcl
    rw [hls]
    clear hls
    have O1 : Hid (OR w.heap.size (wr.alloc (.cells #[.int .i64 a, .int .i64 b] 171)) (.slice A0 ls.length c0) ls) := hid (HO.out.alloc _)
    have B1 : Hid (Below w.heap.size w (wr.alloc (.cells #[.int .i64 a, .int .i64 b] 171))) := hid (BR.out.alloc sr _)
    have s1 : w.heap.size ≤ (wr.alloc (.cells #[.int .i64 a, .int .i64 b] 171)).heap.size := B1.out.size
    have E1 : Hid (Blk (wr.alloc (.cells #[.int .i64 a, .int .i64 b] 171)) wr.heap.size #[.int .i64 a, .int .i64 b] 171) := hid (Blk.new _ _ _)
    by_cases h1 : a < x
    ·by_cases h2 : y < b
     ·have e : cutOne x y (a, b) = [(a, mn b x), (mx a y, b)] := by unfold cutOne; rw [if_pos h1, if_pos h2]; rfl
      go_wp2_with (first
       | (at_builtin; refine wp_app w.heap.size rfl _ _ 68 171 _ 2 16 rfl Tryz.underlying68 HI.out rfl (by omega) (by omega) rfl rfl ((O1.out).alloc _) (Sl.boxk (wr.alloc (.cells #[.int .i64 a, .int .i64 b] 171)) 171 2 [.int .i64 a, .int .i64 (mn b x)] _ (by simp) rfl (by simp [Value.oneCell'])) (by first | omega | (simp only [List.length_append, List.length_cons, List.length_nil]; omega)) (Nat.le_trans s1 (by simp)) ?_; intro v7 w7 hown hfr hat; have O7 := hid (OR.push (rs := ls) hown); have B7 := hid (Frm.below ((B1.out).alloc s1 _) hfr (Nat.le_trans s1 (by simp)) (fun g hg => ((O1.out).lt g hg).1)); have s7 : w.heap.size ≤ w7.heap.size := B7.out.size; have eb := (E1.out.alloc _).frm hfr (fun hg => by have := (HO.out.lt _ hg).2; omega); have eb0 := eb.cell 0; have eb1 := eb.cell 1; simp only [gA, gZ, gC] at eb0 eb1; clear eb; obtain ⟨A7, c7, rfl⟩ := own_slice' hown; clear hown hfr hat)
       | (at_builtin; refine wp_app w.heap.size rfl _ _ 68 171 _ 2 16 rfl Tryz.underlying68 HI.out rfl (by omega) (by omega) rfl rfl ((O7.out).alloc _) (Sl.boxk w7 171 2 [.int .i64 (mx a y), .int .i64 b] _ (by simp) rfl (by simp [Value.oneCell'])) (by first | omega | (simp only [List.length_append, List.length_cons, List.length_nil]; omega)) (Nat.le_trans s7 (by simp)) ?_; intro v8 w8 hown hfr hat; have O8 := hid (OR.push (rs := (ls ++ [(a, mn b x)])) hown); have B8 := hid (Frm.below ((B7.out).alloc s7 _) hfr (Nat.le_trans s7 (by simp)) (fun g hg => ((O7.out).lt g hg).1)); have s8 : w.heap.size ≤ w8.heap.size := B8.out.size; obtain ⟨A8, c8, rfl⟩ := own_slice' hown; clear hown hfr hat))
      (try go_wp2_with fail)
      go_roundw
      case rel => exact ⟨j + 1, hjl, by go_num, by rw [HT.out, e, show ls ++ [(a, mn b x), (mx a y, b)] = (ls ++ [(a, mn b x)]) ++ [(mx a y, b)] from by simp]; have h8 := O8.out; rw [show (ls ++ [(a, mn b x)]).length + 1 = ls.length + 1 + 1 by simp] at h8; exact h8, B8.out⟩
      case measure => simp [intOf]; omega
     ·have e : cutOne x y (a, b) = [(a, mn b x)] := by unfold cutOne; rw [if_pos h1, if_neg h2]; rfl
      go_wp2_with (at_builtin; refine wp_app w.heap.size rfl _ _ 68 171 _ 2 16 rfl Tryz.underlying68 HI.out rfl (by omega) (by omega) rfl rfl ((O1.out).alloc _) (Sl.boxk (wr.alloc (.cells #[.int .i64 a, .int .i64 b] 171)) 171 2 [.int .i64 a, .int .i64 (mn b x)] _ (by simp) rfl (by simp [Value.oneCell'])) (by first | omega | (simp only [List.length_append, List.length_cons, List.length_nil]; omega)) (Nat.le_trans s1 (by simp)) ?_; intro v7 w7 hown hfr hat; have O7 := hid (OR.push (rs := ls) hown); have B7 := hid (Frm.below ((B1.out).alloc s1 _) hfr (Nat.le_trans s1 (by simp)) (fun g hg => ((O1.out).lt g hg).1)); have s7 : w.heap.size ≤ w7.heap.size := B7.out.size; have eb := (E1.out.alloc _).frm hfr (fun hg => by have := (HO.out.lt _ hg).2; omega); have eb0 := eb.cell 0; have eb1 := eb.cell 1; simp only [gA, gZ, gC] at eb0 eb1; clear eb; obtain ⟨A7, c7, rfl⟩ := own_slice' hown; clear hown hfr hat)
      (try go_wp2_with fail)
      go_roundw
      case rel => exact ⟨j + 1, hjl, by go_num, by rw [HT.out, e]; exact O7.out, B7.out⟩
      case measure => simp [intOf]; omega
    ·by_cases h2 : y < b
     ·have e : cutOne x y (a, b) = [(mx a y, b)] := by unfold cutOne; rw [if_neg h1, if_pos h2]; rfl
      go_wp2_with (at_builtin; refine wp_app w.heap.size rfl _ _ 68 171 _ 2 16 rfl Tryz.underlying68 HI.out rfl (by omega) (by omega) rfl rfl ((O1.out).alloc _) (Sl.boxk (wr.alloc (.cells #[.int .i64 a, .int .i64 b] 171)) 171 2 [.int .i64 (mx a y), .int .i64 b] _ (by simp) rfl (by simp [Value.oneCell'])) (by first | omega | (simp only [List.length_append, List.length_cons, List.length_nil]; omega)) (Nat.le_trans s1 (by simp)) ?_; intro v7 w7 hown hfr hat; have O7 := hid (OR.push (rs := ls) hown); have B7 := hid (Frm.below ((B1.out).alloc s1 _) hfr (Nat.le_trans s1 (by simp)) (fun g hg => ((O1.out).lt g hg).1)); have s7 : w.heap.size ≤ w7.heap.size := B7.out.size; obtain ⟨A7, c7, rfl⟩ := own_slice' hown; clear hown hfr hat)
      (try go_wp2_with fail)
      go_roundw
      case rel => exact ⟨j + 1, hjl, by go_num, by rw [HT.out, e]; exact O7.out, B7.out⟩
      case measure => simp [intOf]; omega
     ·have e : cutOne x y (a, b) = [] := by unfold cutOne; rw [if_neg h1, if_neg h2]; rfl
      clear O1 B1 E1 s1
      go_wp2_with fail
      go_roundw
      case rel => exact ⟨j + 1, hjl, by go_num, by rw [HT.out, e, List.append_nil]; exact HO.out.alloc _, BR.out.alloc sr _⟩
      case measure => simp [intOf]; omega
   ·have j1 : ¬ (j : Int) < (rs.length : Int) := by omega
    obtain rfl : j = rs.length := by omega
    rw [List.take_length] at HO hcl
    rw [List.take_length]
    have cr := (BR.out.cell (p := ⟨gs, k, none⟩) hgs).trans hc
    have fr := (BR.out.frozen (p := ⟨gs, k, none⟩) hgs).trans hf
    go_wp2_with fail
    go_end0
    have hlt := HO.out.lt
    exact ⟨rfl, _, ⟨wr, BR.out, .inl rfl⟩, HO.out.rr.frm ((Frm.refl (· = gs) wr).setCell (.inl rfl) _) (fun j hj e => by have := (hlt j hj).1; omega), .inr (fun j hj => ⟨(hlt j hj).1, Nat.lt_of_lt_of_le (hlt j hj).2 ((Frm.refl (· = gs) wr).setCell (p := ⟨gs, k, none⟩) (.inl rfl) _).size⟩)⟩
 ·rw [if_neg hxy]
  go_enter Tryz.func109, Tryz.ntmps109
  go_wp2_with fail
  refine (clip_any f t w).mono ?_
  rintro e _ ⟨rfl, rfl⟩
  rw [HX.out, HY.out, decide_eq_false (by omega)]
  go_wp2_with fail
  refine bodyPost_ret (results_none rfl _ _ _) rfl ?_
  exact ⟨rfl, _, ⟨w, Below.refl _ _, .inr ⟨rfl, hc⟩⟩, H.out, .inl rfl⟩
end

section
attribute [local go_sem] run_max2' run_min2' run_max_ run_min_
def rowc {α : Type} (f : α → List Value) : List α → List Value
 | [] => []
 | a :: l => f a ++ rowc f l
section
variable {α : Type} {f : α → List Value} {k te B : Nat} {w : World} {v : Value} {l : List α}
theorem rowc_len (hf : ∀ a, (f a).length = k) : ∀ l : List α, (rowc f l).length = l.length * k
 | [] => by simp [rowc]
 | a :: l => by simp only [rowc, List.length_append, hf, List.length_cons, rowc_len hf l, Nat.add_mul]; omega
theorem rowc_app : ∀ l m : List α, rowc f (l ++ m) = rowc f l ++ rowc f m
 | [], m => rfl
 | a :: l, m => by simp [rowc, rowc_app l m]
theorem rowc_one (h1 : ∀ a, ∀ u ∈ f a, u.oneCell' = true) : ∀ l : List α, ∀ u ∈ rowc f l, u.oneCell' = true
 | [], u, h => by cases h
 | a :: l, u, h => by
  rcases List.mem_append.1 h with h | h
  ·exact h1 a u h
  ·exact rowc_one h1 l u h
theorem rowc_at (hf : ∀ a, (f a).length = k) : ∀ (l : List α) (i j : Nat) (h : i < l.length), j < k → (rowc f l)[i * k + j]? = (f l[i])[j]?
 | [], i, j, h, _ => by simp at h
 | a :: l, 0, j, h, hj => by
  simp only [rowc, Nat.zero_mul, Nat.zero_add]
  rw [List.getElem?_append_left (by rw [hf]; exact hj)]
  rfl
 | a :: l, i + 1, j, h, hj => by
  simp only [rowc]
  rw [List.getElem?_append_right (by rw [hf, Nat.add_mul]; omega), show (i + 1) * k + j - (f a).length = i * k + j by rw [hf, Nat.add_mul]; omega]
  exact rowc_at hf l i j (by simpa using h) hj
abbrev RG (f : α → List Value) (k : Nat) (w : World) (v : Value) (l : List α) : Prop := Sl w k v l.length (rowc f l)
abbrev OG (f : α → List Value) (k te B : Nat) (w : World) (v : Value) (l : List α) : Prop := w.ownsRow B te k v l.length (rowc f l)
theorem OG.push {a : α} (h : w.ownsRow B te k v (l.length + 1) (rowc f l ++ f a)) : OG f k te B w v (l ++ [a]) := by
 show w.ownsRow B te k v (l ++ [a]).length (rowc f (l ++ [a]))
 rw [rowc_app, List.length_append]
 simpa [rowc] using h
theorem RG.at_ {A : Option Addr} {n c : Nat} (h : RG f k w (.slice A n c) l) (hk : 0 < k) (hf : ∀ a, (f a).length = k) {i : Nat} (hi : i < l.length) : ∃ ad, A = some ad ∧ ∀ j u, (f l[i])[j]? = some u → w.cell? ((ad.add (i * k)).add j) = some u := by
 obtain ⟨A', c', e, _, _, h6, _, h5⟩ := h
 injection e with e1 e2 e3
 subst e1
 obtain ⟨ad, rfl, hc⟩ := h5 (by rw [rowc_len hf]; exact Nat.mul_pos (by omega) hk)
 refine ⟨ad, rfl, fun j u hj => ?_⟩
 rw [addr_add]
 have hlt := (List.getElem?_eq_some_iff.1 hj).1
 rw [hf] at hlt
 exact hc _ u (by rw [rowc_at hf l i j hi hlt]; exact hj)
end
theorem Tryz.info140 : (Tryz.prog.info? 140).map (fun i => (i.zero, i.size, i.bytes)) = some (some (.agg #[.int .i64 0, .int .i64 0, .int .i64 0, .int .i64 0]), 4, 32) := by kernel_rfl
abbrev O4 := Int × Int × Int × Int
def outc (o : O4) : List Value := [.int .i64 o.1, .int .i64 o.2.1, .int .i64 o.2.2.1, .int .i64 o.2.2.2]
theorem outc_len (o : O4) : (outc o).length = 4 := rfl
theorem outc_one (o : O4) : ∀ u ∈ outc o, u.oneCell' = true := by intro u hu; simp [outc] at hu; rcases hu with rfl | rfl | rfl | rfl <;> rfl
theorem out_at {w : World} {A : Option Addr} {n c : Nat} {l : List O4} (h : RG outc 4 w (.slice A n c) l) {i : Nat} (hi : i < l.length) : ∃ ad, A = some ad ∧ w.cell? (ad.add (i * 4)) = some (.int .i64 l[i].1) ∧ w.cell? ⟨(ad.add (i * 4)).block, (ad.add (i * 4)).off + 1, none⟩ = some (.int .i64 l[i].2.1) ∧ w.cell? ⟨(ad.add (i * 4)).block, (ad.add (i * 4)).off + 2, none⟩ = some (.int .i64 l[i].2.2.1) ∧ w.cell? ⟨(ad.add (i * 4)).block, (ad.add (i * 4)).off + 3, none⟩ = some (.int .i64 l[i].2.2.2) := by
 obtain ⟨ad, rfl, hc⟩ := RG.at_ h (by omega) outc_len hi
 have h0 := hc 0 _ rfl
 rw [addr_zero] at h0
 have g := fun (j : Nat) (hj : j ≠ 0) (u : Value) (hu : (outc l[i])[j]? = some u) => by
  have := hc j u hu
  rw [addr_pos _ _ hj] at this
  exact this
 exact ⟨ad, rfl, h0, g 1 (by omega) _ rfl, g 2 (by omega) _ rfl, g 3 (by omega) _ rfl⟩
/-- Dropping all. -/
theorem drop_any (w : World) (g k : Nat) (v : Value) (l : List O4) (hc : w.cell? ⟨g, k, none⟩ = some v) (hf : w.frozen? ⟨g, k, none⟩ = false) (hr : RG outc 4 w v l) :
  Calls Tryz.prog 69 #[.pointer (some ⟨g, k, none⟩)] w fun e w' => e = .returned v ∧ w' = w.setCell ⟨g, k, none⟩ (.slice none 0 0) := by
 obtain ⟨A, c, rfl, _⟩ := hr.len
 clear hr
 go_enter Tryz.func69, Tryz.ntmps69
 go_wp2
 go_ret
 exact ⟨rfl, rfl⟩
def lates (z : Int) (l : List O4) : List O4 := l.filter fun o => decide (o.2.2.2 ≤ z)
def stays (z : Int) (l : List O4) : List O4 := l.filter fun o => !decide (o.2.2.2 ≤ z)
def LateR (w : World) (g k : Nat) (z : Int) (l : List O4) (e : Ending) (w' : World) : Prop :=
 ∃ v1 v2 wz, e = .returned v1 ∧ Below w.heap.size w wz ∧ w' = wz.setCell ⟨g, k, none⟩ v2 ∧ OG outc 4 140 w.heap.size wz v1 (lates z l) ∧ OG outc 4 140 w.heap.size wz v2 (stays z l) ∧ ∀ j, v1.ownBlock = some j → ¬ v2.ownBlock = some j
set_option maxHeartbeats 8000000 in
set_option maxRecDepth 100000 in
theorem flate_any (w : World) (g k : Nat) (v : Value) (l : List O4) (now wait : Int) (hc : w.cell? ⟨g, k, none⟩ = some v) (hf : w.frozen? ⟨g, k, none⟩ = false) (hr : RG outc 4 w v l) (hl : l.length ≤ 100000000) :
  Calls Tryz.prog 86 #[.pointer (some ⟨g, k, none⟩), .int .i64 now, .int .i64 wait] w fun e w' => LateR w g k (IntKind.i64.wrap (now - wait)) l e w' := by
 obtain ⟨A, c, rfl, _, _⟩ := hr.len
 have H := hid hr
 have HI := hid Tryz.info140
 have hgs := World.block_lt_of_cell? w _ hc
 simp only at hgs
 clear hr
 obtain ⟨z, hz⟩ : ∃ z, IntKind.i64.wrap (now - wait) = z := ⟨_, rfl⟩
 rw [hz]
 go_enter Tryz.func86, Tryz.ntmps86
 go_wp2_with fail
 go_loopw [7, 8, 16] (fun v7 v8 i wr => ∃ j : Nat, j ≤ l.length ∧ i = .int .i64 j ∧ OG outc 4 140 w.heap.size wr v7 (lates z (l.take j)) ∧ OG outc 4 140 w.heap.size wr v8 (stays z (l.take j)) ∧ (∀ g, v7.ownBlock = some g → ¬ v8.ownBlock = some g) ∧ Below w.heap.size w wr) (fun _ _ i _ => l.length - (intOf i).toNat)
 case atStart => exact ⟨0, Nat.zero_le _, rfl, World.ownsRow_nil _ _ _ _, World.ownsRow_nil _ _ _ _, (fun g h => by cases h), Below.refl _ _⟩
 case round =>
  obtain ⟨j, hj, rfl, ho7, ho8, hap, hb⟩ := hrel
  have O7 := hid ho7
  have O8 := hid ho8
  have BR := hid hb
  have sr : w.heap.size ≤ wr.heap.size := hb.size
  obtain ⟨A7, c7, rfl⟩ := own_slice' ho7
  obtain ⟨A8, c8, rfl⟩ := own_slice' ho8
  have AP := hid hap
  have hl7 : (lates z (l.take j)).length ≤ 100000000 := Nat.le_trans (List.length_filter_le _ _) (by rw [List.length_take]; omega)
  have hl8 : (stays z (l.take j)).length ≤ 100000000 := Nat.le_trans (List.length_filter_le _ _) (by rw [List.length_take]; omega)
  clear ho7 ho8 hb hap
  by_cases hjl : j < l.length
  ·have j0 : (0 : Int) ≤ (j : Int) := by omega
   have j1 : (j : Int) < (l.length : Int) := by omega
   have iwj : IntKind.i64.wrap ((j : Int) + 1) = (j : Int) + 1 := iX
   obtain ⟨ad, rfl, d0, d1, d2, d3⟩ := out_at (H.out.below BR.out) hjl
   obtain ⟨o, ho⟩ : ∃ o, l[j] = o := ⟨_, rfl⟩
   have T7 : Hid (lates z (l.take (j + 1)) = if o.2.2.2 ≤ z then lates z (l.take j) ++ [o] else lates z (l.take j)) := hid (by rw [List.take_add_one, List.getElem?_eq_getElem hjl, ho]; unfold lates; rw [List.filter_append]; by_cases h : o.2.2.2 ≤ z <;> simp [h])
   have T8 : Hid (stays z (l.take (j + 1)) = if o.2.2.2 ≤ z then stays z (l.take j) else stays z (l.take j) ++ [o]) := hid (by rw [List.take_add_one, List.getElem?_eq_getElem hjl, ho]; unfold stays; rw [List.filter_append]; by_cases h : o.2.2.2 ≤ z <;> simp [h])
   rw [ho] at d0 d1 d2 d3
   clear ho
   obtain ⟨la, hla⟩ : ∃ x, lates z (l.take j) = x := ⟨_, rfl⟩
   obtain ⟨st, hst⟩ : ∃ x, stays z (l.take j) = x := ⟨_, rfl⟩
   rw [hla] at O7 T7 hl7 AP
   rw [hst] at O8 T8 hl8 AP
   rw [hla, hst]
   clear hla hst
   have B1 : Hid (Below w.heap.size w (wr.alloc (.cells #[.int .i64 o.1, .int .i64 o.2.1, .int .i64 o.2.2.1, .int .i64 o.2.2.2] 140))) := hid (BR.out.alloc sr _)
   have s1 : w.heap.size ≤ (wr.alloc (.cells #[.int .i64 o.1, .int .i64 o.2.1, .int .i64 o.2.2.1, .int .i64 o.2.2.2] 140)).heap.size := B1.out.size
   have O7' := O7
   have O8' := O8
   have O7 : Hid (OG outc 4 140 w.heap.size (wr.alloc (.cells #[.int .i64 o.1, .int .i64 o.2.1, .int .i64 o.2.2.1, .int .i64 o.2.2.2] 140)) (.slice A7 la.length c7) la) := hid (O7'.out.alloc _)
   have O8 : Hid (OG outc 4 140 w.heap.size (wr.alloc (.cells #[.int .i64 o.1, .int .i64 o.2.1, .int .i64 o.2.2.1, .int .i64 o.2.2.2] 140)) (.slice A8 st.length c8) st) := hid (O8'.out.alloc _)
   clear O7' O8'
   by_cases h1 : o.2.2.2 ≤ z
   ·go_wp2_with (at_builtin; refine wp_app w.heap.size rfl _ _ 124 140 _ 4 32 rfl Tryz.underlying124 HI.out rfl (by omega) (by omega) rfl rfl ((O7.out).alloc _) (Sl.boxk (wr.alloc (.cells #[.int .i64 o.1, .int .i64 o.2.1, .int .i64 o.2.2.1, .int .i64 o.2.2.2] 140)) 140 4 (outc o) _ (by simp) rfl (by simp [outc, Value.oneCell'])) (by first | omega | (simp only [List.length_append, List.length_cons, List.length_nil]; omega)) (Nat.le_trans s1 (by simp)) ?_; intro v9 w9 hown hfr hat; have O9 := hid (OG.push (l := la) (a := o) hown); have B9 := hid (Frm.below ((B1.out).alloc s1 _) hfr (Nat.le_trans s1 (by simp)) (fun g hg => ((O7.out).lt g hg).1)); have s9 : w.heap.size ≤ w9.heap.size := B9.out.size; have P9 := hid (own_frm (O8.out.alloc _) hfr (fun g h8 h7 => AP.out g h7 h8)); have AP9 : Hid (∀ j, v9.ownBlock = some j → ¬ (Value.slice A8 st.length c8).ownBlock = some j) := hid (fun j h7 h8 => by rcases hat with ha | ha; exact AP.out j (ha ▸ h7) h8; (rw [ha] at h7; injection h7 with h7; have h9 := (O8.out.lt j h8).2; exact absurd h9 (by rw [← h7]; exact Nat.not_lt.2 (by simp)))); obtain ⟨A9, c9, rfl⟩ := own_slice' hown; clear hown hfr hat)
    (try go_wp2_with fail)
    go_roundw
    case rel => exact ⟨j + 1, hjl, by go_num, by rw [T7.out, if_pos h1]; exact O9.out, by rw [T8.out, if_pos h1]; exact P9.out, AP9.out, B9.out⟩
    case measure => simp [intOf]; omega
   ·go_wp2_with (at_builtin; refine wp_app w.heap.size rfl _ _ 124 140 _ 4 32 rfl Tryz.underlying124 HI.out rfl (by omega) (by omega) rfl rfl ((O8.out).alloc _) (Sl.boxk (wr.alloc (.cells #[.int .i64 o.1, .int .i64 o.2.1, .int .i64 o.2.2.1, .int .i64 o.2.2.2] 140)) 140 4 (outc o) _ (by simp) rfl (by simp [outc, Value.oneCell'])) (by first | omega | (simp only [List.length_append, List.length_cons, List.length_nil]; omega)) (Nat.le_trans s1 (by simp)) ?_; intro v9 w9 hown hfr hat; have O9 := hid (OG.push (l := st) (a := o) hown); have B9 := hid (Frm.below ((B1.out).alloc s1 _) hfr (Nat.le_trans s1 (by simp)) (fun g hg => ((O8.out).lt g hg).1)); have s9 : w.heap.size ≤ w9.heap.size := B9.out.size; have P9 := hid (own_frm (O7.out.alloc _) hfr (fun g h7 h8 => AP.out g h7 h8)); have AP9 : Hid (∀ j, (Value.slice A7 la.length c7).ownBlock = some j → ¬ v9.ownBlock = some j) := hid (fun j h7 h8 => by rcases hat with ha | ha; exact AP.out j h7 (ha ▸ h8); (rw [ha] at h8; injection h8 with h8; have h9 := (O7.out.lt j h7).2; exact absurd h9 (by rw [← h8]; exact Nat.not_lt.2 (by simp)))); obtain ⟨A9, c9, rfl⟩ := own_slice' hown; clear hown hfr hat)
    (try go_wp2_with fail)
    go_roundw
    case rel => exact ⟨j + 1, hjl, by go_num, by rw [T7.out, if_neg h1]; exact P9.out, by rw [T8.out, if_neg h1]; exact O9.out, AP9.out, B9.out⟩
    case measure => simp [intOf]; omega
  ·have j1 : ¬ (j : Int) < (l.length : Int) := by omega
   obtain rfl : j = l.length := by omega
   rw [List.take_length] at O7 O8 AP
   rw [List.take_length]
   have cr := (BR.out.cell (p := ⟨g, k, none⟩) hgs).trans hc
   have fr := (BR.out.frozen (p := ⟨g, k, none⟩) hgs).trans hf
   go_wp2_with fail
   go_ret
   exact ⟨_, _, wr, rfl, BR.out, rfl, O7.out, O8.out, AP.out⟩
end
end Go.Proofs.YtdneakejlbabeaaGreat
