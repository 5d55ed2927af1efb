/- The contracts of the reference's Pick, of Copy, Same and wakes. -/
import Derived.Test.YtnpapjocobgpnaaPk
namespace Go.Proofs.Ytnpapjocobgpnaa
open Go.RowKit

/-- What a call of the reference's Pick leaves. -/
def PickedR (w w' : World) (g : Nat) (kd la : Int) (l : List Int) (e : Ending) : Prop :=
  ∃ v, e = .returned v ∧ w'.ownsRow w.heap.size 3 1 v l.length (i64s l) ∧ Rch w' g kd la ∧ Frm (· = g) w w'

theorem setCell_size (w : World) (p : Addr) (u : Value) : (w.setCell p u).heap.size = w.heap.size := by simp [World.setCell]
theorem own_box_at (w : World) (z : Int) (base h : Nat) (hh : h = w.heap.size) (hb : base ≤ w.heap.size) : (w.alloc (.cells #[.int .i64 z] 3)).ownsRow base 3 1 (.slice (some ⟨h, 0, none⟩) 1 1) [z].length (i64s [z]) := hh ▸ World.ownsRow_lit w _ 1 hb (by simp [maxLen]) rfl
set_option maxHeartbeats 4000000 in
theorem refpick_any (v : Value) (n : Nat) (ms : List Int) (g : Nat) (kd la nx : Int) (w : World) (hs : Sl w 1 v n (i64s ms)) (h : Rch w g kd la) (hn : n ≤ 1000000) (hnx : nx = la + 1) (hsg : ∀ j, v.ownBlock = some j → j ≠ g)
    (pl : List Int) (pn : Int) (hpl : pl = pkN kd nx ms) (hpn : pn = nxN kd nx ms - 1) :
    Calls Try.prog 13 #[.pointer (some ⟨g, 0, none⟩), v] w fun e w' => PickedR w w' g kd pn pl e := by
  have hl := sl_len hs
  have HL := Lib.hid hl
  have HNX := Lib.hid hnx
  have hub := us_bound ms n hn
  have HUB := Lib.hid hub
  have hul := usN_length ms n
  have hms : usN ms ms.length = usN ms n := by rw [hl]
  unfold pkN at hpl
  unfold nxN at hpn
  simp only [hms] at hpl hpn
  have HPL := Lib.hid hpl
  have HPN := Lib.hid hpn
  clear hpl hpn
  have H := Lib.hid h
  have HS := Lib.hid hs
  have HG := Lib.hid hsg
  have HI := Lib.hid Try.info3
  have lg := h.lt
  obtain ⟨A, c, rfl, _, _⟩ := hs.len
  clear hs h hsg hl hub hms hnx
  obtain ⟨m, hm⟩ : ∃ m, m = (usN ms n).length := ⟨_, rfl⟩
  have HM := Lib.hid hm
  have hmn : m ≤ n := by omega
  clear hul hm
  go_enter Try.func13, Try.ntmps13
  go_wp2_with fail
  go_loopw [5, 15] (fun v i wr => ∃ k : Nat, k ≤ n ∧ i = .int .i64 k ∧ wr.ownsRow w.heap.size 3 1 v (usN ms k).length (i64s (usN ms k)) ∧ Below w.heap.size w wr) (fun _ i _ => n - (intOf i).toNat)
  case atStart => exact ⟨0, by omega, rfl, World.ownsRow_nil _ _ _ _, Below.refl _ _⟩
  case round =>
    obtain ⟨k, hk, rfl, ho, hb⟩ := hrel
    have HO := Lib.hid ho
    have HB := Lib.hid hb
    have sz := hb.size
    clear ho hb
    by_cases hlt : k < n
    · obtain ⟨x, rfl, cx⟩ := HS.out.at_ hlt
      rw [i64s_getD _ _ (by rw [HL.out]; exact hlt)] at cx
      have cx2 := (HB.out.cell (World.block_lt_of_cell? w _ cx)).trans cx
      have hlen := usN_length ms k
      by_cases hz : 0 ≤ ms.getD k 0
      · have hu := usN_yes ms k hz
        have HU := Lib.hid hu
        generalize ms.getD k 0 = z at *
        clear hu cx
        go_wp2_with (at_builtin; refine wp_app w.heap.size rfl _ _ 22 3 (.int .i64 0) 1 8 rfl Try.underlying22 HI.out rfl (by omega) (by omega) rfl rfl (HO.out.alloc _) (Sl.one _ _ _ rfl) (by omega) (Nat.le_trans sz (by simp)) ?_; intro v1 w1 hown hfr hat)
        have HO1 : Hid (w1.ownsRow w.heap.size 3 1 v1 (usN ms (k + 1)).length (i64s (usN ms (k + 1)))) := by
          rw [HU.out, List.length_append, i64s, List.map_append]
          exact hown
        have HB1 : Hid (Below w.heap.size w w1) := Frm.below (HB.out.alloc sz _) hfr (Nat.le_trans sz (by simp)) (fun g hg => (HO.out.lt g hg).1)
        clear hown hfr hat
        go_wp2_with fail
        go_roundw
        case rel => exact ⟨k + 1, by omega, by go_num, HO1.out, HB1.out⟩
        case measure => simp [intOf]; omega
      · have hu := usN_no ms k hz
        have HO1 : Hid (wr.ownsRow w.heap.size 3 1 u5 (usN ms (k + 1)).length (i64s (usN ms (k + 1)))) := by rw [hu]; exact HO.out
        generalize ms.getD k 0 = z at *
        clear hu cx
        go_wp2_with fail
        go_roundw
        case rel => exact ⟨k + 1, by omega, by go_num, HO1.out, HB.out⟩
        case measure => simp [intOf]; omega
    · obtain rfl : n = k := by omega
      have hpl := HPL.out
      have hpn := HPN.out
      clear HPL HPN
      generalize hu : usN ms n = l at *
      have HU := Lib.hid hu
      obtain ⟨A1, c1, rfl⟩ := own_slice' HO.out
      have H1 := Lib.hid (Blk.below H.out (HB.out.mono (Nat.le_refl _)))
      have HF := Lib.hid (Frm.of_below (S := (· = g)) HB.out)
      have cc := Blk.cell H1.out 0
      have ca := Blk.cell H1.out 1
      have fa := Blk.free H1.out 1
      simp at cc ca
      have hml := HM.out
      by_cases hl0 : l = []
      · rw [if_pos (.inl hl0)] at hpl hpn
        subst hl0
        have HE : Hid (pl = [] ∧ pn = la) := ⟨hpl, by have := HNX.out; omega⟩
        clear hu hml hpl hpn
        go_wp2_with fail
        go_ret
        exact ⟨_, rfl, HE.out.1 ▸ HO.out, HE.out.2 ▸ H1.out, HF.out⟩
      · have m0 : 0 < m := by
          rw [hml]
          exact List.length_pos_iff.2 hl0
        have mz : ((m : Int) == 0) = false := by simp; omega
        have mm : (0 : Int) < (m : Int) := by omega
        have HO2 := HO
        rw [← hml] at HO2
        obtain ⟨g1, c1', he, hg1, _⟩ := HO2.out.form m0
        rw [← hml]
        injection he with e1 e2 e3
        subst e1
        subst e3
        have cl := HO2.out.cellAt 0 (by omega)
        rw [i64s_get _ _ (by rw [← hml]; exact m0)] at cl
        have HSL := Lib.hid (Sl.of_own HO2.out (i64s_one _))
        obtain ⟨l0, hl0'⟩ : ∃ l0, l0 = l.getD 0 0 := ⟨_, rfl⟩
        rw [← hl0'] at cl
        have HL0 := Lib.hid hl0'
        have hkk : (kd = 3 ∨ kd = 2) ∨ (¬ kd = 3 ∧ ¬ kd = 2) := by omega
        rcases hkk with (h3 | h2) | ⟨h3, h2⟩
        · rw [if_pos (.inr h3)] at hpl hpn
          have k3 : (kd == 3) = true := by simpa using h3
          have HE : Hid (pl = l ∧ pn = la) := ⟨hpl, by have := HNX.out; omega⟩
          clear hl0 hu hml h3 hl0' e2 cl HO hpl hpn
          go_wp2_with fail
          go_ret
          exact ⟨_, rfl, by rw [HE.out.1, ← HM.out]; exact HO2.out, HE.out.2 ▸ H1.out, HF.out⟩
        · have hnc : ¬ (l = [] ∨ kd = 3) := fun h => h.elim hl0 (fun h => by omega)
          rw [if_neg hnc, if_pos h2] at hpl hpn
          have HE : Hid (pl = [rdN nx l] ∧ pn = rdN nx l) := ⟨hpl, by omega⟩
          have k3 : (kd == 3) = false := by simp; omega
          have k2 : (kd == 2) = true := by simpa using h2
          clear hl0 hu hml h2 hnc hl0' e2 HO hpl hpn
          go_wp2_with fail
          go_loop [8, 48] (fun b i => ∃ j : Nat, j ≤ m ∧ i = .int .i64 j ∧ b = .int .i64 l0 ∧ j ≤ idN nx l) (fun _ i => m - (intOf i).toNat)
          case atStart => exact ⟨0, by omega, rfl, rfl, by omega⟩
          case round =>
            obtain ⟨j, hj, rfl, rfl, hid⟩ := hrel
            by_cases hlt2 : j < m
            · have cj := sl_cell HSL.out (i := j) hlt2
              have j1 : (j : Int) < (m : Int) := by omega
              have j0 : (0 : Int) ≤ (j : Int) := by omega
              by_cases hz : nx ≤ l.getD j 0
              · have he : idN nx l = j := by rw [idN_go nx l j hid (by rw [← HM.out]; exact hlt2), if_pos hz]
                have HZ : Hid (rdN nx l = l.getD j 0) := by
                  unfold rdN
                  rw [he, if_pos (by rw [← HM.out]; exact hlt2)]
                  exact rfl
                have hz2 : la < l.getD j 0 := by have := HNX.out; omega
                clear he hid hz
                generalize l.getD j 0 = z at *
                go_wp2_with fail
                go_ret
                exact ⟨_, rfl, by rw [HE.out.1, HZ.out]; exact own_box_at _ _ _ _ (setCell_size _ _ _).symm (Nat.le_trans HB.out.size (Nat.le_of_eq (setCell_size _ _ _).symm)), (by rw [HE.out.2, HZ.out]; exact (Rch.set1 H1.out _).alloc _), (HF.out.setg _).alloc _⟩
              · have he := idN_step nx l j hid (by rw [← HM.out]; exact hlt2) hz
                have hz2 : ¬ la < l.getD j 0 := by have := HNX.out; omega
                clear hz
                generalize l.getD j 0 = z at *
                go_wp2_with fail
                go_round
                case rel => exact ⟨j + 1, by omega, by go_num, rfl, he⟩
                case measure => simp [intOf]; omega
            · obtain rfl : m = j := by omega
              have HZ : Hid (rdN nx l = l0) := by
                unfold rdN
                rw [if_neg (by rw [← HM.out]; omega)]
                exact HL0.out.symm
              go_wp2_with fail
              go_ret
              exact ⟨_, rfl, by rw [HE.out.1, HZ.out]; exact own_box_at _ _ _ _ (setCell_size _ _ _).symm (Nat.le_trans HB.out.size (Nat.le_of_eq (setCell_size _ _ _).symm)), (by rw [HE.out.2, HZ.out]; exact (Rch.set1 H1.out _).alloc _), (HF.out.setg _).alloc _⟩
        · have hnc : ¬ (l = [] ∨ kd = 3) := fun h => h.elim hl0 (fun h => by omega)
          rw [if_neg hnc, if_neg h2] at hpl hpn
          rw [← HM.out] at hpl
          have HE : Hid (pl = [bsN ms l m] ∧ pn = la) := ⟨hpl, by have := HNX.out; omega⟩
          have k3 : (kd == 3) = false := by simp; omega
          have k2 : (kd == 2) = false := by simp; omega
          have HS1 := Lib.hid (HS.out.below HB.out)
          clear hl0 hu hml h2 h3 hnc hl0' e2 HO hpl hpn
          go_wp2_with fail
          go_loopw [8, 68] (fun b i wq => ∃ j d : Nat, j ≤ m ∧ i = .int .i64 j ∧ b = .int .i64 (bsN ms l j) ∧ wq = wr.drewN d) (fun _ i _ => m - (intOf i).toNat)
          case atStart => exact ⟨0, 0, by omega, rfl, by rw [bsN_zero, HL0.out], rfl⟩
          case round =>
            clear cl cc ca mz mm
            obtain ⟨j, d, hj, rfl, rfl, rfl⟩ := hrel
            by_cases hlt2 : j < m
            · have hbm := HUB.out _ (bsN_mem ms l (by rw [← HM.out]; exact m0) j (by rw [← HM.out]; exact hj))
              have hbu := (usN_mem ms n (bsN ms l j)).1 (by rw [HU.out]; exact bsN_mem ms l (by rw [← HM.out]; exact m0) j (by rw [← HM.out]; exact hj))
              have hpu := (usN_mem ms n (l.getD j 0)).1 (by rw [HU.out, List.getD_eq_getElem?_getD, List.getElem?_eq_getElem (by rw [← HM.out]; exact hlt2)]; exact List.getElem_mem _)
              have hst := bsN_succ ms l j (by rw [← HM.out]; exact hlt2)
              have cj := sl_cell HSL.out (i := j) hlt2
              obtain ⟨pb, hpb⟩ : ∃ pb : Nat, bsN ms l j = (pb : Int) := ⟨(bsN ms l j).toNat, by omega⟩
              obtain ⟨pj, hpj⟩ : ∃ pj : Nat, l.getD j 0 = (pj : Int) := ⟨(l.getD j 0).toNat, by omega⟩
              have hbn : pb < n := by omega
              have hjn : pj < n := by omega
              rw [hpj] at cj
              rw [hpb, hpj, Int.toNat_natCast, Int.toNat_natCast] at hst
              rw [hpb]
              have HST := Lib.hid hst
              clear hbm hbu hpu hst hpb hpj
              obtain ⟨x, rfl, cx⟩ := HS1.out.at_ hbn
              obtain ⟨x', e', cy⟩ := HS1.out.at_ hjn
              injection e' with e'
              subst e'
              rw [i64s_getD _ _ (by rw [HL.out]; exact hbn)] at cx
              rw [i64s_getD _ _ (by rw [HL.out]; exact hjn)] at cy
              obtain ⟨xb, hxb⟩ : ∃ xb, xb = ms.getD pb 0 := ⟨_, rfl⟩
              obtain ⟨xj, hxj⟩ : ∃ xj, xj = ms.getD pj 0 := ⟨_, rfl⟩
              rw [← hxb] at cx
              rw [← hxj] at cy
              have HST2 : Hid (bsN ms l (j + 1) = if xj < xb then (pj : Int) else (pb : Int)) := by rw [hxb, hxj]; exact HST.out
              have i1 : (pb : Int) < (n : Int) := by omega
              have i2 : (pj : Int) < (n : Int) := by omega
              have i3 : (j : Int) < (m : Int) := by omega
              have i4 : (0 : Int) ≤ (pb : Int) := by omega
              have i5 : (0 : Int) ≤ (pj : Int) := by omega
              have i6 : (0 : Int) ≤ (j : Int) := by omega
              clear hxb hxj HST
              by_cases hlx : xj < xb
              · have HQ : Hid (bsN ms l (j + 1) = (pj : Int)) := by have := HST2.out; rwa [if_pos hlx] at this
                go_wp2_with fail
                go_quiet (fail)
                go_wp2_with fail
                go_roundw
                case rel => exact ⟨j + 1, _, by omega, by go_num, by rw [HQ.out], rfl⟩
                case measure => simp [intOf]; omega
              · have HQ : Hid (bsN ms l (j + 1) = (pb : Int)) := by have := HST2.out; rwa [if_neg hlx] at this
                have hlx2 : decide (xj < xb) = false := decide_eq_false hlx
                go_wp2_with fail
                go_quiet (fail)
                go_wp2_with fail
                go_roundw
                case rel => exact ⟨j + 1, _, by omega, by go_num, by rw [HQ.out], rfl⟩
                case measure => simp [intOf]; omega
            · obtain rfl : m = j := by omega
              go_wp2_with fail
              go_ret
              have hf : Frm (· = g) w (wr.drewN d) := HF.out.drewN d
              exact ⟨_, rfl, by rw [HE.out.1]; exact World.ownsRow_lit (wr.drewN d) _ 1 HB.out.size (by simp [maxLen]) rfl, (by rw [HE.out.2]; exact (H1.out.drewN d).alloc _), hf.alloc _⟩
end Go.Proofs.Ytnpapjocobgpnaa
