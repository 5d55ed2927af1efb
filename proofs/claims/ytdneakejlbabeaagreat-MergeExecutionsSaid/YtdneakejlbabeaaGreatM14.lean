/- Parts of the walk: Eg, Je. -/
import Derived.Deep.AppendLies
import Derived.Test.YtdneakejlbabeaaGreatM03
import Derived.Test.YtdneakejlbabeaaGreatM13
namespace Go.Proofs.YtdneakejlbabeaaGreat
open Go.RowKit
set_option linter.unusedVariables false
set_option linter.unusedSimpArgs false
attribute [local go_sem] run_max2 run_min2 run_max_ run_min_

/-- The paths that can be used, of the first k. -/
def usN (ms : List Int) (k : Nat) : List Int := ((List.range k).filter fun i => decide (0 ≤ ms.getD i 0)).map fun i : Nat => (i : Int)
theorem usN_zero (ms : List Int) : usN ms 0 = [] := rfl
theorem usN_yes (ms : List Int) (k : Nat) (h : 0 ≤ ms.getD k 0) : usN ms (k + 1) = usN ms k ++ [(k : Int)] := by
  have e : List.filter (fun i => decide (0 ≤ ms.getD i 0)) [k] = [k] := by rw [List.filter_cons_of_pos (by simpa using h)]; rfl
  rw [usN, List.range_succ, List.filter_append, e, List.map_append]
  rfl
theorem usN_no (ms : List Int) (k : Nat) (h : ¬ 0 ≤ ms.getD k 0) : usN ms (k + 1) = usN ms k := by
  have e : List.filter (fun i => decide (0 ≤ ms.getD i 0)) [k] = [] := by rw [List.filter_cons_of_neg (by simpa using h)]; rfl
  rw [usN, List.range_succ, List.filter_append, e, List.append_nil]
  rfl
theorem usN_length (ms : List Int) (k : Nat) : (usN ms k).length ≤ k := by
  unfold usN
  rw [List.length_map]
  exact Nat.le_trans (List.length_filter_le _ _) (by simp)
theorem usN_mem (ms : List Int) (k : Nat) (x : Int) : x ∈ usN ms k ↔ 0 ≤ x ∧ x < k ∧ 0 ≤ ms.getD x.toNat 0 := by
  simp only [usN, List.mem_map, List.mem_filter, List.mem_range, decide_eq_true_eq]
  constructor
  · rintro ⟨i, ⟨h1, h2⟩, rfl⟩
    exact ⟨by omega, by omega, by simpa using h2⟩
  · rintro ⟨h0, h1, h2⟩
    exact ⟨x.toNat, ⟨by omega, h2⟩, by omega⟩

/-- The place of the first path from a place on; at the list's length: there is none. -/
def idN (nx : Int) (l : List Int) : Nat := l.findIdx fun p => decide (nx ≤ p)
/-- The path that is next. -/
def rdN (nx : Int) (l : List Int) : Int := if idN nx l < l.length then l.getD (idN nx l) 0 else l.getD 0 0
/-- The quickest of the first k paths, from one on. -/
def bsN (ms : List Int) (l : List Int) (k : Nat) : Int := (l.take k).foldl (fun b p => if ms.getD p.toNat 0 < ms.getD b.toNat 0 then p else b) (l.getD 0 0)
theorem bsN_zero (ms l : List Int) : bsN ms l 0 = l.getD 0 0 := by simp [bsN]
theorem bsN_succ (ms l : List Int) (k : Nat) (h : k < l.length) : bsN ms l (k + 1) = if ms.getD (l.getD k 0).toNat 0 < ms.getD (bsN ms l k).toNat 0 then l.getD k 0 else bsN ms l k := by
  have e : l.take (k + 1) = l.take k ++ [l.getD k 0] := by
    rw [List.take_succ_eq_append_getElem h, List.getD_eq_getElem?_getD, List.getElem?_eq_getElem h]
    rfl
  unfold bsN
  rw [e, List.foldl_append]
  rfl
theorem bsN_mem (ms l : List Int) (h : 0 < l.length) : ∀ k, k ≤ l.length → bsN ms l k ∈ l
  | 0, _ => by
    rw [bsN_zero, List.getD_eq_getElem?_getD, List.getElem?_eq_getElem h]
    exact List.getElem_mem _
  | k + 1, hk => by
    rw [bsN_succ ms l k hk]
    split
    · rw [List.getD_eq_getElem?_getD, List.getElem?_eq_getElem hk]
      exact List.getElem_mem _
    · exact bsN_mem ms l h k (by omega)

/-- What Pick answers, and where it goes on. -/
def pkN (kind nx : Int) (ms : List Int) : List Int :=
  let l := usN ms ms.length
  if l = [] ∨ kind = 3 then l else if kind = 2 then [rdN nx l] else [bsN ms l l.length]
def nxN (kind nx : Int) (ms : List Int) : Int :=
  let l := usN ms ms.length
  if l = [] ∨ kind = 3 then nx else if kind = 2 then rdN nx l + 1 else nx
theorem rdN_mem (nx : Int) (l : List Int) (h : 0 < l.length) : rdN nx l ∈ l := by
  unfold rdN
  split
  · rename_i h1
    rw [List.getD_eq_getElem?_getD, List.getElem?_eq_getElem h1]
    exact List.getElem_mem _
  · rw [List.getD_eq_getElem?_getD, List.getElem?_eq_getElem h]
    exact List.getElem_mem _
theorem Tryz.info3 : (Tryz.prog.info? 3).map (fun i => (i.zero, i.size, i.bytes)) = some (some (.int .i64 0), 1, 8) := by kernel_rfl
theorem ret_int {k : IntKind} {a b : Int} (h : a = b) : Ending.returned (.int k a) = .returned (.int k b) := by rw [h]
def i64s (l : List Int) : List Value := l.map fun n : Int => .int .i64 n
theorem i64s_one (l : List Int) : ∀ u ∈ i64s l, u.oneCell' = true := by simp [i64s, Value.oneCell']
theorem i64s_getD (l : List Int) (i : Nat) (h : i < l.length) : (i64s l).getD i undef = .int .i64 (l.getD i 0) := by
  simp [i64s, List.getD_eq_getElem?_getD, h]
theorem sl_len {w : World} {v : Value} {n : Nat} {l : List Int} (h : Sl w 1 v n (i64s l)) : l.length = n := by
  obtain ⟨_, _, _, _, _, h, _⟩ := h
  simpa [i64s] using h
theorem idN_go (nx : Int) (l : List Int) (k : Nat) (hk : k ≤ idN nx l) (h : k < l.length) : idN nx l = if nx ≤ l.getD k 0 then k else idN nx l := by
  split
  · rename_i h1
    rcases Nat.lt_or_ge k (idN nx l) with h2 | h2
    · have := List.not_of_lt_findIdx h2
      rw [List.getD_eq_getElem?_getD, List.getElem?_eq_getElem h] at h1
      simp at this h1
      omega
    · omega
  · rfl
theorem idN_step (nx : Int) (l : List Int) (k : Nat) (hk : k ≤ idN nx l) (h : k < l.length) (h1 : ¬ nx ≤ l.getD k 0) : k + 1 ≤ idN nx l := by
  rcases Nat.lt_or_ge k (idN nx l) with h2 | h2
  · exact h2
  · exfalso
    have he : idN nx l = k := by omega
    have := List.findIdx_getElem (xs := l) (p := fun p => decide (nx ≤ p)) (w := by show idN nx l < l.length; omega)
    rw [List.getD_eq_getElem?_getD, List.getElem?_eq_getElem h] at h1
    simp at this h1
    unfold idN at he
    simp only [he] at this
    omega
theorem us_bound (ms : List Int) (n : Nat) (hn : n ≤ 1000000) : ∀ x ∈ usN ms n, 0 ≤ x ∧ x ≤ 1000000 := fun x hx => by
  have := (usN_mem ms n x).1 hx
  omega

theorem i64s_get (l : List Int) (q : Nat) (h : q < l.length) : (i64s l)[q]? = some (.int .i64 (l.getD q 0)) := by
  simp [i64s, List.getD_eq_getElem?_getD, List.getElem?_eq_getElem h]
theorem sl_cell {w : World} {g n c i : Nat} {l : List Int} (h : Sl w 1 (.slice (some ⟨g, 0, none⟩) n c) n (i64s l)) (hi : i < n) : w.cell? ⟨g, i, none⟩ = some (.int .i64 (l.getD i 0)) := by
  obtain ⟨ad, e, hc⟩ := h.at_ hi
  injection e with e
  subst e
  have ha : (⟨g, 0, none⟩ : Addr).add i = ⟨g, i, none⟩ := by unfold Addr.add; split <;> simp_all
  rw [ha] at hc
  rw [hc, i64s_getD _ _ (by rw [sl_len h]; exact hi)]
theorem within_any (v n : Int) (w : World) (hn : 0 < n) (hn2 : n ≤ 1000000) : Calls Tryz.prog 8 #[.int .i64 v, .int .i64 n] w fun e w' => e = .returned (.int .i64 (v % n)) ∧ w = w' := by
  have h1 : ¬ n < 1 := by omega
  have h2 : ¬ n = 0 := by omega
  have hz : (n == 0) = false := by simpa using h2
  by_cases h : v.tmod n < 0
  · have e : v.tmod n + n = v % n := by
      rw [Int.tmod_eq_emod]
      have := Int.emod_nonneg v h2
      rw [Int.tmod_eq_emod] at h
      split at h <;> split <;> omega
    have l : -n < v.tmod n := by
      have := Int.emod_nonneg v h2
      have := Int.emod_lt_of_pos v hn
      rw [Int.tmod_eq_emod]
      split <;> omega
    have E := Lib.hid e
    clear e
    go_enter Tryz.func8, Tryz.ntmps8
    go_wp2
    go_ret
    exact ⟨ret_int E.out, rfl⟩
  · have e : v.tmod n = v % n := by
      have := Int.emod_nonneg v h2
      have := Int.emod_lt_of_pos v hn
      rw [Int.tmod_eq_emod] at h ⊢
      split at h <;> split <;> omega
    have E := Lib.hid e
    clear e
    go_enter Tryz.func8, Tryz.ntmps8
    go_wp2
    go_ret
    exact ⟨ret_int E.out, rfl⟩
/-- A chooser. -/
def Rch (w : World) (g : Nat) (k la : Int) : Prop := Blk w g #[.int .i64 k, .int .i64 la] 156
theorem Rch.set1 {w : World} {g : Nat} {k nx : Int} (h : Rch w g k nx) (x : Int) : Rch (w.setCell ⟨g, 1, none⟩ (.int .i64 x)) g k x := by
  have := Blk.set h 1 (.int .i64 x)
  simpa [Rch] using this
/-- What a call of the reference's Pick leaves. -/
def PickedR (w w' : World) (g : Nat) (kd la : Int) (l : List Int) (e : Ending) : Prop :=
  ∃ v, e = .returned v ∧ w'.ownsRow w.heap.size 3 1 v l.length (i64s l) ∧ Rch w' g kd la ∧ Frm (· = g) w w'

theorem setCell_size (w : World) (p : Addr) (u : Value) : (w.setCell p u).heap.size = w.heap.size := by simp [World.setCell]
theorem own_box_at (w : World) (z : Int) (base h : Nat) (hh : h = w.heap.size) (hb : base ≤ w.heap.size) : (w.alloc (.cells #[.int .i64 z] 3)).ownsRow base 3 1 (.slice (some ⟨h, 0, none⟩) 1 1) [z].length (i64s [z]) := hh ▸ World.ownsRow_lit w _ 1 hb (by simp [maxLen]) rfl
set_option maxHeartbeats 4000000 in
theorem refpick_any (v : Value) (n : Nat) (ms : List Int) (g : Nat) (kd la nx : Int) (w : World) (hs : Sl w 1 v n (i64s ms)) (h : Rch w g kd la) (hn : n ≤ 1000000) (hnx : nx = la + 1) (hsg : ∀ j, v.ownBlock = some j → j ≠ g)
    (pl : List Int) (pn : Int) (hpl : pl = pkN kd nx ms) (hpn : pn = nxN kd nx ms - 1) :
    Calls Tryz.prog 94 #[.pointer (some ⟨g, 0, none⟩), v] w fun e w' => PickedR w w' g kd pn pl e := by
  have hl := sl_len hs
  have HL := Lib.hid hl
  have HNX := Lib.hid hnx
  have hub := us_bound ms n hn
  have HUB := Lib.hid hub
  have hul := usN_length ms n
  have hms : usN ms ms.length = usN ms n := by rw [hl]
  unfold pkN at hpl
  unfold nxN at hpn
  simp only [hms] at hpl hpn
  have HPL := Lib.hid hpl
  have HPN := Lib.hid hpn
  clear hpl hpn
  have H := Lib.hid h
  have HS := Lib.hid hs
  have HG := Lib.hid hsg
  have HI := Lib.hid Tryz.info3
  have lg := h.lt
  obtain ⟨A, c, rfl, _, _⟩ := hs.len
  clear hs h hsg hl hub hms hnx
  obtain ⟨m, hm⟩ : ∃ m, m = (usN ms n).length := ⟨_, rfl⟩
  have HM := Lib.hid hm
  have hmn : m ≤ n := by omega
  clear hul hm
  go_enter Tryz.func94, Tryz.ntmps94
  go_wp2_with fail
  go_loopw [5, 15] (fun v i wr => ∃ k : Nat, k ≤ n ∧ i = .int .i64 k ∧ wr.ownsRow w.heap.size 3 1 v (usN ms k).length (i64s (usN ms k)) ∧ Below w.heap.size w wr) (fun _ i _ => n - (intOf i).toNat)
  case atStart => exact ⟨0, by omega, rfl, World.ownsRow_nil _ _ _ _, Below.refl _ _⟩
  case round =>
    obtain ⟨k, hk, rfl, ho, hb⟩ := hrel
    have HO := Lib.hid ho
    have HB := Lib.hid hb
    have sz := hb.size
    clear ho hb
    by_cases hlt : k < n
    · obtain ⟨x, rfl, cx⟩ := HS.out.at_ hlt
      rw [i64s_getD _ _ (by rw [HL.out]; exact hlt)] at cx
      have cx2 := (HB.out.cell (World.block_lt_of_cell? w _ cx)).trans cx
      have hlen := usN_length ms k
      by_cases hz : 0 ≤ ms.getD k 0
      · have hu := usN_yes ms k hz
        have HU := Lib.hid hu
        generalize ms.getD k 0 = z at *
        clear hu cx
        go_wp2_with (at_builtin; refine wp_app w.heap.size rfl _ _ 66 3 (.int .i64 0) 1 8 rfl Tryz.underlying66 HI.out rfl (by omega) (by omega) rfl rfl (HO.out.alloc _) (Sl.one _ _ _ rfl) (by omega) (Nat.le_trans sz (by simp)) ?_; intro v1 w1 hown hfr hat)
        have HO1 : Hid (w1.ownsRow w.heap.size 3 1 v1 (usN ms (k + 1)).length (i64s (usN ms (k + 1)))) := by
          rw [HU.out, List.length_append, i64s, List.map_append]
          exact hown
        have HB1 : Hid (Below w.heap.size w w1) := Frm.below (HB.out.alloc sz _) hfr (Nat.le_trans sz (by simp)) (fun g hg => (HO.out.lt g hg).1)
        clear hown hfr hat
        go_wp2_with fail
        go_roundw
        case rel => exact ⟨k + 1, by omega, by go_num, HO1.out, HB1.out⟩
        case measure => simp [intOf]; omega
      · have hu := usN_no ms k hz
        have HO1 : Hid (wr.ownsRow w.heap.size 3 1 u5 (usN ms (k + 1)).length (i64s (usN ms (k + 1)))) := by rw [hu]; exact HO.out
        generalize ms.getD k 0 = z at *
        clear hu cx
        go_wp2_with fail
        go_roundw
        case rel => exact ⟨k + 1, by omega, by go_num, HO1.out, HB.out⟩
        case measure => simp [intOf]; omega
    · obtain rfl : n = k := by omega
      have hpl := HPL.out
      have hpn := HPN.out
      clear HPL HPN
      generalize hu : usN ms n = l at *
      have HU := Lib.hid hu
      obtain ⟨A1, c1, rfl⟩ := own_slice' HO.out
      have H1 := Lib.hid (Blk.below H.out (HB.out.mono (Nat.le_refl _)))
      have HF := Lib.hid (Frm.of_below (S := (· = g)) HB.out)
      have cc := Blk.cell H1.out 0
      have ca := Blk.cell H1.out 1
      have fa := Blk.free H1.out 1
      simp at cc ca
      have hml := HM.out
      by_cases hl0 : l = []
      · rw [if_pos (.inl hl0)] at hpl hpn
        subst hl0
        have HE : Hid (pl = [] ∧ pn = la) := ⟨hpl, by have := HNX.out; omega⟩
        clear hu hml hpl hpn
        go_wp2_with fail
        go_ret
        exact ⟨_, rfl, HE.out.1 ▸ HO.out, HE.out.2 ▸ H1.out, HF.out⟩
      · have m0 : 0 < m := by
          rw [hml]
          exact List.length_pos_iff.2 hl0
        have mz : ((m : Int) == 0) = false := by simp; omega
        have mm : (0 : Int) < (m : Int) := by omega
        have HO2 := HO
        rw [← hml] at HO2
        obtain ⟨g1, c1', he, hg1, _⟩ := HO2.out.form m0
        rw [← hml]
        injection he with e1 e2 e3
        subst e1
        subst e3
        have cl := HO2.out.cellAt 0 (by omega)
        rw [i64s_get _ _ (by rw [← hml]; exact m0)] at cl
        have HSL := Lib.hid (Sl.of_own HO2.out (i64s_one _))
        obtain ⟨l0, hl0'⟩ : ∃ l0, l0 = l.getD 0 0 := ⟨_, rfl⟩
        rw [← hl0'] at cl
        have HL0 := Lib.hid hl0'
        have hkk : (kd = 3 ∨ kd = 2) ∨ (¬ kd = 3 ∧ ¬ kd = 2) := by omega
        rcases hkk with (h3 | h2) | ⟨h3, h2⟩
        · rw [if_pos (.inr h3)] at hpl hpn
          have k3 : (kd == 3) = true := by simpa using h3
          have HE : Hid (pl = l ∧ pn = la) := ⟨hpl, by have := HNX.out; omega⟩
          clear hl0 hu hml h3 hl0' e2 cl HO hpl hpn
          go_wp2_with fail
          go_ret
          exact ⟨_, rfl, by rw [HE.out.1, ← HM.out]; exact HO2.out, HE.out.2 ▸ H1.out, HF.out⟩
        · have hnc : ¬ (l = [] ∨ kd = 3) := fun h => h.elim hl0 (fun h => by omega)
          rw [if_neg hnc, if_pos h2] at hpl hpn
          have HE : Hid (pl = [rdN nx l] ∧ pn = rdN nx l) := ⟨hpl, by omega⟩
          have k3 : (kd == 3) = false := by simp; omega
          have k2 : (kd == 2) = true := by simpa using h2
          clear hl0 hu hml h2 hnc hl0' e2 HO hpl hpn
          go_wp2_with fail
          go_loop [8, 48] (fun b i => ∃ j : Nat, j ≤ m ∧ i = .int .i64 j ∧ b = .int .i64 l0 ∧ j ≤ idN nx l) (fun _ i => m - (intOf i).toNat)
          case atStart => exact ⟨0, by omega, rfl, rfl, by omega⟩
          case round =>
            obtain ⟨j, hj, rfl, rfl, hid⟩ := hrel
            by_cases hlt2 : j < m
            · have cj := sl_cell HSL.out (i := j) hlt2
              have j1 : (j : Int) < (m : Int) := by omega
              have j0 : (0 : Int) ≤ (j : Int) := by omega
              by_cases hz : nx ≤ l.getD j 0
              · have he : idN nx l = j := by rw [idN_go nx l j hid (by rw [← HM.out]; exact hlt2), if_pos hz]
                have HZ : Hid (rdN nx l = l.getD j 0) := by
                  unfold rdN
                  rw [he, if_pos (by rw [← HM.out]; exact hlt2)]
                  exact rfl
                have hz2 : la < l.getD j 0 := by have := HNX.out; omega
                clear he hid hz
                generalize l.getD j 0 = z at *
                go_wp2_with fail
                go_ret
                exact ⟨_, rfl, by rw [HE.out.1, HZ.out]; exact own_box_at _ _ _ _ (setCell_size _ _ _).symm (Nat.le_trans HB.out.size (Nat.le_of_eq (setCell_size _ _ _).symm)), (by rw [HE.out.2, HZ.out]; exact (Rch.set1 H1.out _).alloc _), (HF.out.setg _).alloc _⟩
              · have he := idN_step nx l j hid (by rw [← HM.out]; exact hlt2) hz
                have hz2 : ¬ la < l.getD j 0 := by have := HNX.out; omega
                clear hz
                generalize l.getD j 0 = z at *
                go_wp2_with fail
                go_round
                case rel => exact ⟨j + 1, by omega, by go_num, rfl, he⟩
                case measure => simp [intOf]; omega
            · obtain rfl : m = j := by omega
              have HZ : Hid (rdN nx l = l0) := by
                unfold rdN
                rw [if_neg (by rw [← HM.out]; omega)]
                exact HL0.out.symm
              go_wp2_with fail
              go_ret
              exact ⟨_, rfl, by rw [HE.out.1, HZ.out]; exact own_box_at _ _ _ _ (setCell_size _ _ _).symm (Nat.le_trans HB.out.size (Nat.le_of_eq (setCell_size _ _ _).symm)), (by rw [HE.out.2, HZ.out]; exact (Rch.set1 H1.out _).alloc _), (HF.out.setg _).alloc _⟩
        · have hnc : ¬ (l = [] ∨ kd = 3) := fun h => h.elim hl0 (fun h => by omega)
          rw [if_neg hnc, if_neg h2] at hpl hpn
          rw [← HM.out] at hpl
          have HE : Hid (pl = [bsN ms l m] ∧ pn = la) := ⟨hpl, by have := HNX.out; omega⟩
          have k3 : (kd == 3) = false := by simp; omega
          have k2 : (kd == 2) = false := by simp; omega
          have HS1 := Lib.hid (HS.out.below HB.out)
          clear hl0 hu hml h2 h3 hnc hl0' e2 HO hpl hpn
          go_wp2_with fail
          go_loopw [8, 68] (fun b i wq => ∃ j d : Nat, j ≤ m ∧ i = .int .i64 j ∧ b = .int .i64 (bsN ms l j) ∧ wq = wr.drewN d) (fun _ i _ => m - (intOf i).toNat)
          case atStart => exact ⟨0, 0, by omega, rfl, by rw [bsN_zero, HL0.out], rfl⟩
          case round =>
            clear cl cc ca mz mm
            obtain ⟨j, d, hj, rfl, rfl, rfl⟩ := hrel
            by_cases hlt2 : j < m
            · have hbm := HUB.out _ (bsN_mem ms l (by rw [← HM.out]; exact m0) j (by rw [← HM.out]; exact hj))
              have hbu := (usN_mem ms n (bsN ms l j)).1 (by rw [HU.out]; exact bsN_mem ms l (by rw [← HM.out]; exact m0) j (by rw [← HM.out]; exact hj))
              have hpu := (usN_mem ms n (l.getD j 0)).1 (by rw [HU.out, List.getD_eq_getElem?_getD, List.getElem?_eq_getElem (by rw [← HM.out]; exact hlt2)]; exact List.getElem_mem _)
              have hst := bsN_succ ms l j (by rw [← HM.out]; exact hlt2)
              have cj := sl_cell HSL.out (i := j) hlt2
              obtain ⟨pb, hpb⟩ : ∃ pb : Nat, bsN ms l j = (pb : Int) := ⟨(bsN ms l j).toNat, by omega⟩
              obtain ⟨pj, hpj⟩ : ∃ pj : Nat, l.getD j 0 = (pj : Int) := ⟨(l.getD j 0).toNat, by omega⟩
              have hbn : pb < n := by omega
              have hjn : pj < n := by omega
              rw [hpj] at cj
              rw [hpb, hpj, Int.toNat_natCast, Int.toNat_natCast] at hst
              rw [hpb]
              have HST := Lib.hid hst
              clear hbm hbu hpu hst hpb hpj
              obtain ⟨x, rfl, cx⟩ := HS1.out.at_ hbn
              obtain ⟨x', e', cy⟩ := HS1.out.at_ hjn
              injection e' with e'
              subst e'
              rw [i64s_getD _ _ (by rw [HL.out]; exact hbn)] at cx
              rw [i64s_getD _ _ (by rw [HL.out]; exact hjn)] at cy
              obtain ⟨xb, hxb⟩ : ∃ xb, xb = ms.getD pb 0 := ⟨_, rfl⟩
              obtain ⟨xj, hxj⟩ : ∃ xj, xj = ms.getD pj 0 := ⟨_, rfl⟩
              rw [← hxb] at cx
              rw [← hxj] at cy
              have HST2 : Hid (bsN ms l (j + 1) = if xj < xb then (pj : Int) else (pb : Int)) := by rw [hxb, hxj]; exact HST.out
              have i1 : (pb : Int) < (n : Int) := by omega
              have i2 : (pj : Int) < (n : Int) := by omega
              have i3 : (j : Int) < (m : Int) := by omega
              have i4 : (0 : Int) ≤ (pb : Int) := by omega
              have i5 : (0 : Int) ≤ (pj : Int) := by omega
              have i6 : (0 : Int) ≤ (j : Int) := by omega
              clear hxb hxj HST
              by_cases hlx : xj < xb
              · have HQ : Hid (bsN ms l (j + 1) = (pj : Int)) := by have := HST2.out; rwa [if_pos hlx] at this
                go_wp2_with fail
                go_quiet (fail)
                go_wp2_with fail
                go_roundw
                case rel => exact ⟨j + 1, _, by omega, by go_num, by rw [HQ.out], rfl⟩
                case measure => simp [intOf]; omega
              · have HQ : Hid (bsN ms l (j + 1) = (pb : Int)) := by have := HST2.out; rwa [if_neg hlx] at this
                have hlx2 : decide (xj < xb) = false := decide_eq_false hlx
                go_wp2_with fail
                go_quiet (fail)
                go_wp2_with fail
                go_roundw
                case rel => exact ⟨j + 1, _, by omega, by go_num, by rw [HQ.out], rfl⟩
                case measure => simp [intOf]; omega
            · obtain rfl : m = j := by omega
              go_wp2_with fail
              go_ret
              have hf : Frm (· = g) w (wr.drewN d) := HF.out.drewN d
              exact ⟨_, rfl, by rw [HE.out.1]; exact World.ownsRow_lit (wr.drewN d) _ 1 HB.out.size (by simp [maxLen]) rfl, (by rw [HE.out.2]; exact (H1.out.drewN d).alloc _), hf.alloc _⟩
end Go.Proofs.YtdneakejlbabeaaGreat

namespace Go.Proofs.YtdneakejlbabeaaGreat
open Go.RowKit
set_option linter.unusedVariables false
set_option linter.unusedSimpArgs false

theorem pk_mem (kd nx : Int) (ms : List Int) : ∀ y ∈ pkN kd nx ms, y ∈ usN ms ms.length := by
  intro y hy
  unfold pkN at hy
  simp only at hy
  split at hy
  · exact hy
  · rename_i h
    have h0 : 0 < (usN ms ms.length).length := List.length_pos_iff.2 (fun e => h (.inl e))
    split at hy
    · rw [List.mem_singleton] at hy; rw [hy]; exact rdN_mem nx _ h0
    · rw [List.mem_singleton] at hy; rw [hy]; exact bsN_mem ms _ h0 _ (Nat.le_refl _)
theorem pk_ne (kd nx : Int) (ms : List Int) (h : usN ms ms.length ≠ []) : pkN kd nx ms ≠ [] := by
  unfold pkN
  simp only
  split
  · exact h
  · split <;> simp
theorem pk_len (kd nx : Int) (ms : List Int) (n : Nat) (h : ms.length ≤ n) (h1 : 1 ≤ n) : (pkN kd nx ms).length ≤ n := by
  have := usN_length ms ms.length
  unfold pkN
  simp only
  split
  · omega
  · split <;> simp <;> omega
/-- What has been gathered of so many paths. -/
structure Chs (w : World) (ps : List PathV) (j : Nat) (ml al : List Int) (fr : Bool) : Prop where
  l : ml.length = j
  m : ∀ (i : Nat) (q : PathV), ps[i]? = some q → i < j → 0 ≤ ml.getD i 0 → usB w q = true
  a : ∀ y ∈ al, ∃ (i : Nat) (q : PathV), y = (i : Int) ∧ ps[i]? = some q ∧ usB w q = true
  n : (ps.take j).any (usB w) = true → al ≠ []
  f : fr = true → ∃ i < j, 0 ≤ ml.getD i 0
  al : al.length ≤ j
theorem Chs.zero (w : World) (ps : List PathV) : Chs w ps 0 [] [] false := ⟨rfl, (fun i q h hl => by omega), (fun y h => by cases h), (fun h => by simp at h), (fun h => by cases h), Nat.le_refl _⟩
theorem getD_snoc (l : List Int) (x : Int) (i : Nat) : (l ++ [x]).getD i 0 = if i = l.length then x else l.getD i 0 := by
  simp only [List.getD_eq_getElem?_getD]
  rcases Nat.lt_trichotomy i l.length with h | h | h
  · rw [if_neg (by omega), List.getElem?_append_left h]
  · subst h; rw [if_pos rfl, List.getElem?_append_right (Nat.le_refl _)]; simp
  · rw [if_neg (by omega), List.getElem?_eq_none (by simp; omega), List.getElem?_eq_none (by omega)]
theorem Chs.no {w : World} {ps : List PathV} {j : Nat} {ml al : List Int} {fr : Bool} {q : PathV} (h : Chs w ps j ml al fr) (hq : ps[j]? = some q) (hu : usB w q = false) : Chs w ps (j + 1) (ml ++ [-1]) al fr :=
  ⟨by simp [h.l], fun i q' hi hij hm => by
    rw [getD_snoc, h.l] at hm
    split at hm
    · omega
    · exact h.m i q' hi (by omega) hm, h.a, fun ha => h.n (by
      rw [List.take_add_one, hq, List.any_append] at ha
      simpa [hu] using ha), fun hf => by
    obtain ⟨i, hi, hm⟩ := h.f hf
    exact ⟨i, by omega, by rw [getD_snoc, h.l, if_neg (by omega)]; exact hm⟩, by have := h.al; omega⟩
theorem Chs.yes {w : World} {ps : List PathV} {j : Nat} {ml al : List Int} {fr fr' : Bool} {q : PathV} (h : Chs w ps j ml al fr) (hq : ps[j]? = some q) (hu : usB w q = true) (m : Int) (hf : fr' = true → 0 ≤ m ∨ fr = true) : Chs w ps (j + 1) (ml ++ [m]) (al ++ [(j : Int)]) fr' :=
  ⟨by simp [h.l], fun i q' hi hij hm => by
    rw [getD_snoc, h.l] at hm
    split at hm
    · rename_i e
      subst e
      rw [hq] at hi
      injection hi with hi
      rw [← hi]
      exact hu
    · exact h.m i q' hi (by omega) hm, fun y hy => by
    rcases List.mem_append.1 hy with hy | hy
    · exact h.a y hy
    · rw [List.mem_singleton] at hy
      exact ⟨j, q, hy, hq, hu⟩, fun _ => by simp, fun hf' => by
    rcases hf hf' with h0 | h0
    · exact ⟨j, by omega, by rw [getD_snoc, h.l, if_pos rfl]; exact h0⟩
    · obtain ⟨i, hi, hm⟩ := h.f h0
      exact ⟨i, by omega, by rw [getD_snoc, h.l, if_neg (by omega)]; exact hm⟩, by have := h.al; simp; omega⟩
theorem EndS.put6 {o o' : Nat → Nat} {k B : Nat} {w w' : World} {ge : Nat} {x : EndV} (h : EndS o k B w ge x) (s : Stp (fun c => c = k + 6) o o' w w') (h6 : C6 o' k B w' x.gs) : EndS o' k B w' ge x :=
  have kp := h.kp
  ⟨h.blk.frm s.f (fun e => by have := h.og; omega), (s.ag _ h.blk.lt).trans h.og, h.ge, h.kp, h.c1.frm s (by omega), h.c2.frm s (by omega), h.c3.frm s (by omega), h.c4.frm s (by omega), h.c5.frm s (by omega), h6, h.c7.frm s (by omega) (by omega), h.c8.frm s (by omega) (by omega), fun i p hi => (h.c9 i p hi).frm s (by omega), h.np⟩
def ChooseR (o : Nat → Nat) (k B : Nat) (w : World) (ge : Nat) (x : EndV) (e : Ending) (w' : World) : Prop :=
  ∃ (v : Value) (pl : List Int), e = .returned v ∧ w'.ownsRow w.heap.size 3 1 v pl.length (i64s pl) ∧ pl.length ≤ 3 ∧ (∀ y ∈ pl, ∃ (i : Nat) (q : PathV), y = (i : Int) ∧ x.ps[i]? = some q ∧ usB w q = true) ∧ (x.ps.any (usB w) = true → pl ≠ []) ∧ EndS (scr o w.heap.size 0) k B w' ge x ∧ Stp (fun c => c = k + 6) o (scr o w.heap.size 0) w w'
set_option maxHeartbeats 16000000 in
set_option maxRecDepth 100000 in
theorem choose_any (o : Nat → Nat) (k B : Nat) (w : World) (ge : Nat) (x : EndV) (h : EndS o k B w ge x) :
    Calls Tryz.prog 64 #[.pointer (some ⟨ge, 0, none⟩)] w fun e w' => ChooseR o k B w ge x e w' := by
  have H := Lib.hid h
  have HI := Lib.hid Tryz.info3
  obtain ⟨A, c, hv, hc, _⟩ := h.path
  have c9 := h.blk.cell 9
  simp only [List.getElem?_toArray, List.getElem?_cons_zero, List.getElem?_cons_succ] at c9
  rw [hv] at c9
  have HV := Lib.hid hv
  have np := h.np
  clear h hv
  obtain ⟨n, hn⟩ : ∃ n, x.ps.length = n := ⟨_, rfl⟩
  rw [hn] at c9 hc np
  have HN := Lib.hid hn
  clear hn
  go_enter Tryz.func64, Tryz.ntmps64
  go_wp2_with fail
  go_loopw [3, 4, 5, 14] (fun vm va vf i wr => ∃ (j : Nat) (ml al : List Int) (fr : Bool), j ≤ n ∧ i = .int .i64 j ∧ vf = .bool fr ∧ Chs w x.ps j ml al fr ∧ wr.ownsRow w.heap.size 3 1 vm j (i64s ml) ∧ wr.ownsRow w.heap.size 3 1 va al.length (i64s al) ∧ (∀ g, vm.ownBlock = some g → ¬ va.ownBlock = some g) ∧ Below w.heap.size w wr) (fun _ _ _ i _ => n - (intOf i).toNat)
  case atStart => exact ⟨0, [], [], false, Nat.zero_le _, rfl, rfl, Chs.zero _ _, World.ownsRow_nil _ _ _ _, World.ownsRow_nil _ _ _ _, (fun g h => by cases h), Below.refl _ _⟩
  case round =>
    obtain ⟨j, ml, al, fr, hj, rfl, rfl, hch, ho3, ho4, hap, hb⟩ := hrel
    have G := Lib.hid hb
    have CH := Lib.hid hch
    have O3 := Lib.hid ho3
    have O4 := Lib.hid ho4
    have AP := Lib.hid hap
    have hal := hch.al
    obtain ⟨A3, c3, rfl⟩ := own_slice' ho3
    obtain ⟨A4, c4, rfl⟩ := own_slice' ho4
    have sr := hb.size
    clear hb hch ho3 ho4 hap
    by_cases hjn : j < n
    · have j0 : (0 : Int) ≤ (j : Int) := by omega
      have j1 : (j : Int) < (n : Int) := by omega
      have iwj : IntKind.i64.wrap ((j : Int) + 1) = (j : Int) + 1 := IntWalk.i64_in _ ⟨by omega, by omega⟩
      obtain ⟨q, hq⟩ : ∃ q, x.ps[j]? = some q := ⟨_, List.getElem?_eq_getElem (by have := HN.out; omega)⟩
      have XR := Lib.hid (H.out.below G.out)
      obtain ⟨A', c', hv', _, hel⟩ := XR.out.path
      obtain ⟨ad, hA, dj, _⟩ := hel j q hq
      have hAA : A = some ad := by
        have := HV.out
        rw [hv'] at this
        injection this with h1 h2 h3
        rw [← h1]
        exact hA
      subst hAA
      have P := Lib.hid (XR.out.c9 j q hq).r
      obtain ⟨m, z, t, kk, hw⟩ := P.out.wd
      obtain ⟨Aq, cq, hvq⟩ := own_slice' P.out.l
      have hP0 := H.out.c9 j q hq
      have hwz : wsz wr q.gW = z := wsz_blk hw
      have hus : usB w q = usB wr q := (usB_frm (Frm.of_below (S := fun _ => False) G.out) hP0.r.wd.lt (fun h => h)).symm
      have US : Hid (Calls Tryz.prog 93 #[.pointer (some ⟨q.gp, 0, none⟩)] wr fun e w' => e = .returned (.bool (usB w q)) ∧ Below wr.heap.size wr w') := Lib.hid (usable1_any wr q.gp q.u q.j q.b q.s q.gG q.gW Aq q.l.length cq m z t kk (by have := P.out.blk; rw [hvq] at this; exact this) hw (usB w q) (by rw [hus]; unfold usB; rw [hwz]))
      have PW : Hid (∀ W, Below wr.heap.size wr W → PathAt B W q.gp q.gG q.gW q.u q.j q.b q.s q.v q.l) := Lib.hid (fun W hW => P.out.below hW)
      have HQ := Lib.hid hq
      obtain ⟨b, hbq⟩ : ∃ b, usB w q = b := ⟨_, rfl⟩
      rw [hbq] at US
      have HB := Lib.hid hbq
      clear hw hwz hus hvq hel hv' hA hq hP0 hbq
      cases b
      · go_wp2_with fail
        refine US.out.mono ?_
        rintro e w2 ⟨rfl, hb2⟩
        have g_ := Below.on' G.out (Nat.le_refl _) hb2
        have o3_ := own_frm O3.out (Frm.of_below (S := fun _ => False) hb2) (fun _ _ h => h)
        have o4_ := own_frm O4.out (Frm.of_below (S := fun _ => False) hb2) (fun _ _ h => h)
        clear G O3 O4 hb2
        have G := Lib.hid g_
        have O3 := Lib.hid o3_
        have O4 := Lib.hid o4_
        clear g_ o3_ o4_
        go_wp2_with (at_builtin; (refine wp_app w.heap.size rfl _ _ 66 3 (.int .i64 0) 1 8 rfl Tryz.underlying66 HI.out rfl (by omega) (by omega) rfl rfl (O3.out.alloc _) (Sl.one _ 3 (.int .i64 (-1)) rfl) (by omega) (Nat.le_trans G.out.size (by simp)) ?_; intro v6 w6 hown hfr hat; have hfr' := ((Frm.refl (fun y => (Value.slice A3 j c3).ownBlock = some y) _).alloc _).trans hfr; have hap6 : ∀ y, v6.ownBlock = some y → ¬ (Value.slice A4 al.length c4).ownBlock = some y := (fun y h1 h2 => by rcases hat with e | e; exact AP.out y (e ▸ h1) h2; (rw [e] at h1; injection h1 with h1; have := (O4.out.lt y h2).2; rw [← h1] at this; simp at this; omega)); have g_ := Frm.below G.out hfr' G.out.size (fun g hg => (O3.out.lt g hg).1); have o4_ := own_frm O4.out hfr' (fun g h4 h3 => AP.out g h3 h4); have O3' := Lib.hid hown; clear G O3 O4; have G := Lib.hid g_; have O4 := Lib.hid o4_; have O3 := O3'; have APM := Lib.hid hap6; obtain ⟨A6, c6, rfl⟩ := own_slice' hown; clear hown hfr hfr' hat g_ o4_ hap6 O3'))
        (try go_wp2_with fail)
        go_roundw
        case rel => exact ⟨j + 1, _, al, fr, hjn, by go_num, rfl, CH.out.no HQ.out HB.out, by simpa [i64s] using O3.out, O4.out, APM.out, G.out⟩
        case measure => simp [intOf]; omega
      · rcases hbe : q.b with _ | _
        · go_wp2_with fail
          refine US.out.mono ?_
          rintro e w2 ⟨rfl, hb2⟩
          have g_ := Below.on' G.out (Nat.le_refl _) hb2
          have o3_ := own_frm O3.out (Frm.of_below (S := fun _ => False) hb2) (fun _ _ h => h)
          have o4_ := own_frm O4.out (Frm.of_below (S := fun _ => False) hb2) (fun _ _ h => h)
          have B2 := Lib.hid hb2
          clear G O3 O4 hb2
          have G := Lib.hid g_
          have O3 := Lib.hid o3_
          have O4 := Lib.hid o4_
          clear g_ o3_ o4_
          have k2 := (PW.out _ B2.out).blk.cell 2
          have k4 := (PW.out _ B2.out).blk.cell 4
          obtain ⟨ga, gm, gc, gd, gs_, hgb, _, _, gm0, _⟩ := (PW.out _ B2.out).g
          have gk := hgb.cell 1
          simp only [List.getElem?_toArray, List.getElem?_cons_zero, List.getElem?_cons_succ] at k2 k4 gk
          rw [hbe] at k2
          have hlp := (PW.out _ B2.out).blk.lt
          have hlg := hgb.lt
          have GM := Lib.hid gm0
          have KK : Hid (∀ W : World, (∀ y, y < w2.heap.size → ¬ (Value.slice A4 al.length c4).ownBlock = some y → W.heap[y]? = w2.heap[y]?) → W.cell? ⟨q.gp, 2, none⟩ = some (.bool false) ∧ W.cell? ⟨q.gp, 4, none⟩ = some (.pointer (some ⟨q.gG, 0, none⟩)) ∧ W.cell? ⟨q.gG, 1, none⟩ = some (.int .i64 gm)) := Lib.hid (fun W hW => by
            have h1 := (H.out.c9 j q HQ.out).r.blk.lt
            have h2 := (H.out.c9 j q HQ.out).r.g.lt
            have n1 : ¬ (Value.slice A4 al.length c4).ownBlock = some q.gp := fun e => by have := (O4.out.lt _ e).1; omega
            have n2 : ¬ (Value.slice A4 al.length c4).ownBlock = some q.gG := fun e => by have := (O4.out.lt _ e).1; omega
            exact ⟨(World.cell?_of_block (hW _ hlp n1)).trans k2, (World.cell?_of_block (hW _ hlp n1)).trans k4, (World.cell?_of_block (hW _ hlg n2)).trans gk⟩)
          clear k2 k4 gk hgb gm0
          go_wp2_with (at_builtin; first | (refine wp_app w.heap.size rfl _ _ 66 3 (.int .i64 0) 1 8 rfl Tryz.underlying66 HI.out rfl (by omega) (by omega) rfl rfl (O4.out.alloc _) (Sl.one _ 3 (.int .i64 (j : Int)) rfl) (by omega) (Nat.le_trans G.out.size (by simp)) ?_; intro v5 w5 hown hfr hat; have hfr' := ((Frm.refl (fun y => (Value.slice A4 al.length c4).ownBlock = some y) _).alloc _).trans hfr; have hap5 : ∀ y, v5.ownBlock = some y → ¬ (Value.slice A3 j c3).ownBlock = some y := (fun y h1 h2 => by rcases hat with e | e; exact AP.out y h2 (e ▸ h1); (rw [e] at h1; injection h1 with h1; have := (O3.out.lt y h2).2; rw [← h1] at this; simp at this; omega)); obtain ⟨q2, q4, qk⟩ := KK.out _ (fun y hy hn => hfr'.block y hy hn); have g_ := Frm.below G.out hfr' G.out.size (fun g hg => (O4.out.lt g hg).1); have o3_ := own_frm O3.out hfr' (fun g h3 h4 => AP.out g h3 h4); have O4' := Lib.hid hown; clear G O3 O4; have G := Lib.hid g_; have O3 := Lib.hid o3_; have O4 := O4'; have APN := Lib.hid hap5; obtain ⟨A5, c5, rfl⟩ := own_slice' hown; clear hown hfr hfr' hat g_ o3_ hap5 O4') | (refine wp_app w.heap.size rfl _ _ 66 3 (.int .i64 0) 1 8 rfl Tryz.underlying66 HI.out rfl (by omega) (by omega) rfl rfl (O3.out.alloc _) (Sl.one _ 3 (.int .i64 (gm)) rfl) (by omega) (Nat.le_trans G.out.size (by simp)) ?_; intro v6 w6 hown hfr hat; have hfr' := ((Frm.refl (fun y => (Value.slice A3 j c3).ownBlock = some y) _).alloc _).trans hfr; have hap6 : ∀ y, v6.ownBlock = some y → ¬ (Value.slice A5 (al.length + 1) c5).ownBlock = some y := (fun y h1 h2 => by rcases hat with e | e; exact APN.out y h2 (e ▸ h1); (rw [e] at h1; injection h1 with h1; have := (O4.out.lt y h2).2; rw [← h1] at this; simp at this; omega)); have g_ := Frm.below G.out hfr' G.out.size (fun g hg => (O3.out.lt g hg).1); have o4_ := own_frm O4.out hfr' (fun g h4 h3 => APN.out g h4 h3); have O3' := Lib.hid hown; clear G O3 O4; have G := Lib.hid g_; have O4 := Lib.hid o4_; have O3 := O3'; have APM := Lib.hid hap6; obtain ⟨A6, c6, rfl⟩ := own_slice' hown; clear hown hfr hfr' hat g_ o4_ hap6 O3'))
          (try go_wp2_with fail)
          go_roundw
          case rel => exact ⟨j + 1, _, _, true, hjn, by go_num, rfl, CH.out.yes HQ.out HB.out gm (fun _ => .inl GM.out), by simpa [i64s] using O3.out, by simpa [i64s] using O4.out, APM.out, G.out⟩
          case measure => simp [intOf]; omega
        · go_wp2_with fail
          refine US.out.mono ?_
          rintro e w2 ⟨rfl, hb2⟩
          have g_ := Below.on' G.out (Nat.le_refl _) hb2
          have o3_ := own_frm O3.out (Frm.of_below (S := fun _ => False) hb2) (fun _ _ h => h)
          have o4_ := own_frm O4.out (Frm.of_below (S := fun _ => False) hb2) (fun _ _ h => h)
          have B2 := Lib.hid hb2
          clear G O3 O4 hb2
          have G := Lib.hid g_
          have O3 := Lib.hid o3_
          have O4 := Lib.hid o4_
          clear g_ o3_ o4_
          have k2 := (PW.out _ B2.out).blk.cell 2
          simp only [List.getElem?_toArray, List.getElem?_cons_zero, List.getElem?_cons_succ] at k2
          rw [hbe] at k2
          have hlp := (PW.out _ B2.out).blk.lt
          have KK : Hid (∀ W : World, (∀ y, y < w2.heap.size → ¬ (Value.slice A4 al.length c4).ownBlock = some y → W.heap[y]? = w2.heap[y]?) → W.cell? ⟨q.gp, 2, none⟩ = some (.bool true)) := Lib.hid (fun W hW => by
            have h1 := (H.out.c9 j q HQ.out).r.blk.lt
            have n1 : ¬ (Value.slice A4 al.length c4).ownBlock = some q.gp := fun e => by have := (O4.out.lt _ e).1; omega
            exact (World.cell?_of_block (hW _ hlp n1)).trans k2)
          clear k2
          go_wp2_with (at_builtin; first | (refine wp_app w.heap.size rfl _ _ 66 3 (.int .i64 0) 1 8 rfl Tryz.underlying66 HI.out rfl (by omega) (by omega) rfl rfl (O4.out.alloc _) (Sl.one _ 3 (.int .i64 (j : Int)) rfl) (by omega) (Nat.le_trans G.out.size (by simp)) ?_; intro v5 w5 hown hfr hat; have hfr' := ((Frm.refl (fun y => (Value.slice A4 al.length c4).ownBlock = some y) _).alloc _).trans hfr; have hap5 : ∀ y, v5.ownBlock = some y → ¬ (Value.slice A3 j c3).ownBlock = some y := (fun y h1 h2 => by rcases hat with e | e; exact AP.out y h2 (e ▸ h1); (rw [e] at h1; injection h1 with h1; have := (O3.out.lt y h2).2; rw [← h1] at this; simp at this; omega)); have q2 := KK.out _ (fun y hy hn => hfr'.block y hy hn); have g_ := Frm.below G.out hfr' G.out.size (fun g hg => (O4.out.lt g hg).1); have o3_ := own_frm O3.out hfr' (fun g h3 h4 => AP.out g h3 h4); have O4' := Lib.hid hown; clear G O3 O4; have G := Lib.hid g_; have O3 := Lib.hid o3_; have O4 := O4'; have APN := Lib.hid hap5; obtain ⟨A5, c5, rfl⟩ := own_slice' hown; clear hown hfr hfr' hat g_ o3_ hap5 O4') | (refine wp_app w.heap.size rfl _ _ 66 3 (.int .i64 0) 1 8 rfl Tryz.underlying66 HI.out rfl (by omega) (by omega) rfl rfl (O3.out.alloc _) (Sl.one _ 3 (.int .i64 (-1)) rfl) (by omega) (Nat.le_trans G.out.size (by simp)) ?_; intro v6 w6 hown hfr hat; have hfr' := ((Frm.refl (fun y => (Value.slice A3 j c3).ownBlock = some y) _).alloc _).trans hfr; have hap6 : ∀ y, v6.ownBlock = some y → ¬ (Value.slice A5 (al.length + 1) c5).ownBlock = some y := (fun y h1 h2 => by rcases hat with e | e; exact APN.out y h2 (e ▸ h1); (rw [e] at h1; injection h1 with h1; have := (O4.out.lt y h2).2; rw [← h1] at this; simp at this; omega)); have g_ := Frm.below G.out hfr' G.out.size (fun g hg => (O3.out.lt g hg).1); have o4_ := own_frm O4.out hfr' (fun g h4 h3 => APN.out g h4 h3); have O3' := Lib.hid hown; clear G O3 O4; have G := Lib.hid g_; have O4 := Lib.hid o4_; have O3 := O3'; have APM := Lib.hid hap6; obtain ⟨A6, c6, rfl⟩ := own_slice' hown; clear hown hfr hfr' hat g_ o4_ hap6 O3'))
          (try go_wp2_with fail)
          go_roundw
          case rel => exact ⟨j + 1, _, _, fr, hjn, by go_num, rfl, CH.out.yes HQ.out HB.out (-1) (fun h => .inr h), by simpa [i64s] using O3.out, by simpa [i64s] using O4.out, APM.out, G.out⟩
          case measure => simp [intOf]; omega
    · have j1 : ¬ (j : Int) < (n : Int) := by omega
      obtain rfl : j = n := by omega
      have XR := Lib.hid (H.out.below G.out)
      have SS : Hid (Stp (fun c => c = k + 6) o (scr o w.heap.size 0) w wr) := Lib.hid ⟨Frm.of_below G.out, scr_agr _ _ _⟩
      have UL : Hid (∀ y ∈ usN ml ml.length, ∃ (i : Nat) (q : PathV), y = (i : Int) ∧ x.ps[i]? = some q ∧ usB w q = true) := Lib.hid (fun y hy => by
        obtain ⟨h1, h2, h3⟩ := (usN_mem ml ml.length y).1 hy
        have hl := CH.out.l
        have hlt : y.toNat < x.ps.length := by have := HN.out; omega
        exact ⟨y.toNat, x.ps[y.toNat], by omega, List.getElem?_eq_getElem hlt, CH.out.m _ _ (List.getElem?_eq_getElem hlt) (by omega) h3⟩)
      cases fr
      · go_wp2_with fail
        go_ret
        exact ⟨_, al, rfl, O4.out, by omega, CH.out.a, (fun ha => CH.out.n (by rw [List.take_of_length_le (by have := HN.out; omega)]; exact ha)), H.out.put6 SS.out ⟨XR.out.c6.r, (SS.out.ag _ H.out.c6.r.lt).trans H.out.c6.ow, H.out.c6.ge⟩, SS.out⟩
      · obtain ⟨kd, la, hck⟩ := XR.out.c6.r
        have c16 := XR.out.blk.cell 16
        simp only [List.getElem?_toArray, List.getElem?_cons_zero, List.getElem?_cons_succ] at c16
        have HCK := Lib.hid hck
        have gsl := (H.out.c6.r).lt
        clear hck
        go_wp2_with fail
        refine (refpick_any _ j ml x.gs kd la (la + 1) wr (Sl.of_own O3.out (i64s_one ml)) HCK.out (by omega) rfl (fun y hy => by have := (O3.out.lt y hy).1; omega) _ _ rfl rfl).mono ?_
        rintro e w2 ⟨v, rfl, hv, hr, hf⟩
        go_wp2_with fail
        go_ret
        have SS2 : Stp (fun c => c = k + 6) o (scr o w.heap.size 0) w w2 := ⟨SS.out.f.trans (hf.mono (fun y hy => by rw [hy]; exact H.out.c6.ow)), scr_agr _ _ _⟩
        have hml := CH.out.l
        refine ⟨v, _, rfl, own_base hv G.out.size, pk_len _ _ _ 3 (by omega) (by omega), fun y hy => UL.out y (pk_mem _ _ _ y hy), fun _ => pk_ne _ _ _ (fun e => ?_), H.out.put6 SS2 ⟨⟨_, _, hr⟩, (SS2.ag _ H.out.c6.r.lt).trans H.out.c6.ow, H.out.c6.ge⟩, SS2⟩
        obtain ⟨i, hi, hm⟩ := CH.out.f rfl
        have := (usN_mem ml ml.length (i : Int)).2 ⟨by omega, by omega, by simpa using hm⟩
        rw [e] at this
        cases this
end Go.Proofs.YtdneakejlbabeaaGreat
