/- The contracts of IndexFunc and round. -/
import Derived.Test.YtnpapjocobgpnaaFns
namespace Go.Proofs.Ytnpapjocobgpnaa
open Go.RowKit
attribute [local go_sem] run_max2 run_min2 run_max_ run_min_

theorem idN_go (nx : Int) (l : List Int) (k : Nat) (hk : k ≤ idN nx l) (h : k < l.length) : idN nx l = if nx ≤ l.getD k 0 then k else idN nx l := by
  split
  · rename_i h1
    rcases Nat.lt_or_ge k (idN nx l) with h2 | h2
    · have := List.not_of_lt_findIdx h2
      rw [List.getD_eq_getElem?_getD, List.getElem?_eq_getElem h] at h1
      simp at this h1
      omega
    · omega
  · rfl
theorem idN_step (nx : Int) (l : List Int) (k : Nat) (hk : k ≤ idN nx l) (h : k < l.length) (h1 : ¬ nx ≤ l.getD k 0) : k + 1 ≤ idN nx l := by
  rcases Nat.lt_or_ge k (idN nx l) with h2 | h2
  · exact h2
  · exfalso
    have he : idN nx l = k := by omega
    have := List.findIdx_getElem (xs := l) (p := fun p => decide (nx ≤ p)) (w := by show idN nx l < l.length; omega)
    rw [List.getD_eq_getElem?_getD, List.getElem?_eq_getElem h] at h1
    simp at this h1
    unfold idN at he
    simp only [he] at this
    omega

theorem index_any (v : Value) (n : Nat) (l : List Int) (b g : Nat) (kd nx : Int) (w : World) (hs : Sl w 1 v n (i64s l)) (hb : w.cell? ⟨b, 0, none⟩ = some (.pointer (some ⟨g, 0, none⟩))) (h : Sch w g kd nx) (hn : n ≤ 1000000) (r : Int) (hr : r = if idN nx l < n then (idN nx l : Int) else -1) :
    Calls Try.prog 16 #[v, .func (.func 17) #[] #[.pointer (some ⟨b, 0, none⟩)]] w fun e w' => e = .returned (.int .i64 r) ∧ w = w' := by
  have HR := Lib.hid hr
  clear hr
  have hl := sl_len hs
  have HL := Lib.hid hl
  have H := Lib.hid h
  have HS := Lib.hid hs
  have HB := Lib.hid hb
  obtain ⟨A, c, rfl, _, _⟩ := hs.len
  clear h hs hb hl
  go_enter Try.func16, Try.ntmps16
  go_wp2_with fail
  go_loop [8] (fun i => ∃ k : Nat, k ≤ n ∧ i = .int .i64 k ∧ k ≤ idN nx l) (fun i => n - (intOf i).toNat)
  case atStart => exact ⟨0, by omega, rfl, by omega⟩
  case round =>
    obtain ⟨k, hk, rfl, hid⟩ := hrel
    by_cases hlt : k < n
    · obtain ⟨x, rfl, cx⟩ := HS.out.at_ hlt
      rw [i64s_getD _ _ (by rw [HL.out]; exact hlt)] at cx
      by_cases hz : nx ≤ l.getD k 0
      · have he : idN nx l = k := by rw [idN_go nx l k hid (by rw [HL.out]; exact hlt), if_pos hz]
        have HE : Hid (r = (k : Int)) := by
          have := HR.out
          rw [he, if_pos hlt] at this
          exact this
        clear he hid
        generalize l.getD k 0 = z at *
        go_wp2_with fail
        refine (closure_any z b g kd nx _ HB.out H.out).mono ?_
        rintro e _ ⟨rfl, rfl⟩
        rw [decide_eq_true hz]
        go_wp2_with fail
        go_ret
        exact ⟨ret_int HE.out.symm, rfl⟩
      · have he := idN_step nx l k hid (by rw [HL.out]; exact hlt) hz
        generalize l.getD k 0 = z at *
        go_wp2_with fail
        refine (closure_any z b g kd nx _ HB.out H.out).mono ?_
        rintro e _ ⟨rfl, rfl⟩
        rw [decide_eq_false (by omega)]
        go_wp2_with fail
        go_round
        case rel => exact ⟨k + 1, by omega, by go_num, he⟩
        case measure => simp [intOf]; omega
    · obtain rfl : k = n := by omega
      have HE : Hid (r = -1) := by
        have := HR.out
        rw [if_neg (by omega)] at this
        exact this
      go_wp2_with fail
      go_ret
      exact ⟨ret_int HE.out.symm, rfl⟩

theorem Sch.set1 {w : World} {g : Nat} {k nx : Int} (h : Sch w g k nx) (x : Int) : Sch (w.setCell ⟨g, 1, none⟩ (.int .i64 x)) g k x := by
  have := Blk.set h 1 (.int .i64 x)
  simpa [Sch] using this
theorem Rch.set1 {w : World} {g : Nat} {k nx : Int} (h : Rch w g k nx) (x : Int) : Rch (w.setCell ⟨g, 1, none⟩ (.int .i64 x)) g k x := by
  have := Blk.set h 1 (.int .i64 x)
  simpa [Rch] using this

/-- round: the first path from a place on, or the first one. -/
theorem round_any (v : Value) (n : Nat) (l : List Int) (g : Nat) (kd nx : Int) (w : World) (hs : Sl w 1 v n (i64s l)) (h : Sch w g kd nx) (hn : n ≤ 1000000) (h0 : 0 < n) (hlo : ∀ x ∈ l, 0 ≤ x ∧ x ≤ 1000000) (hsg : ∀ j, v.ownBlock = some j → j ≠ g) :
    Calls Try.prog 15 #[.pointer (some ⟨g, 0, none⟩), v] w fun e w' => e = .returned (.int .i64 (rdN nx l)) ∧ Sch w' g kd (rdN nx l + 1) ∧ Frm (· = g) w w' := by
  have hl := sl_len hs
  have HL := Lib.hid hl
  have H := Lib.hid h
  have HS := Lib.hid hs
  have HSG := Lib.hid hsg
  obtain ⟨A, c, rfl, _, _⟩ := hs.len
  have hx := hlo _ (rdN_mem nx l (by omega))
  obtain ⟨q, hq⟩ : ∃ q : Nat, q = if idN nx l < n then idN nx l else 0 := ⟨_, rfl⟩
  have hqn : q < n := by rw [hq]; split <;> omega
  have hrd : rdN nx l = l.getD q 0 := by
    rw [hq]
    unfold rdN
    rw [hl]
    split <;> rfl
  have em : (if (0 : Int) < (if idN nx l < n then (idN nx l : Int) else -1) then (if idN nx l < n then (idN nx l : Int) else -1) else 0) = (q : Int) := by
    rw [hq]
    split <;> split <;> omega
  obtain ⟨r, hr⟩ : ∃ r : Int, r = if idN nx l < n then (idN nx l : Int) else -1 := ⟨_, rfl⟩
  rw [← hr] at em
  obtain ⟨z, hz⟩ : ∃ z, z = rdN nx l := ⟨_, rfl⟩
  rw [← hz] at hrd hx ⊢
  have lg := h.lt
  have HR := Lib.hid hr
  have HZ := Lib.hid hrd
  clear h hs hsg hl hlo hq hr hz hrd
  obtain ⟨ad, rfl, cz⟩ := HS.out.at_ hqn
  rw [i64s_getD _ _ (by rw [HL.out]; exact hqn), ← HZ.out] at cz
  have hg1 : ad.block ≠ g := HSG.out _ rfl
  have q1 : (q : Int) < (n : Int) := by omega
  have q0 : (0 : Int) ≤ (q : Int) := by omega
  go_enter Try.func15, Try.ntmps15
  go_wp2_with fail
  refine (index_any _ _ l w.heap.size g kd nx _ (HS.out.alloc _) (by rw [(Blk.new w _ 24).cell 0]; rfl) (H.out.alloc _) hn r HR.out).mono ?_
  rintro e _ ⟨rfl, rfl⟩
  have c1 := (Blk.alloc H.out (.cells #[Value.pointer (some ⟨g, 0, none⟩)] 24)).cell 1
  have f1 := (Blk.alloc H.out (.cells #[Value.pointer (some ⟨g, 0, none⟩)] 24)).free 1
  simp at c1
  have cz2 : (w.alloc (.cells #[Value.pointer (some ⟨g, 0, none⟩)] 24)).cell? (ad.add q) = some (.int .i64 z) := (World.cell?_of_block (w := w) (Below.heap_alloc w _ _ (World.block_lt_of_cell? w _ cz))).trans cz
  go_wp2_with fail
  go_region
  have F5 : Frm (· = g) w ((w.setCell ⟨g, 1, none⟩ (.int .i64 (z + 1))).alloc (.cells #[Value.pointer (some ⟨g, 0, none⟩)] 24)).drew := (((Frm.refl _ _).setg _).alloc _).drew
  have H5 : Hid (Sch ((w.setCell ⟨g, 1, none⟩ (.int .i64 (z + 1))).alloc (.cells #[Value.pointer (some ⟨g, 0, none⟩)] 24)).drew g kd (z + 1)) := ((Sch.set1 H.out (z + 1)).alloc _).drew
  generalize ((w.setCell ⟨g, 1, none⟩ (.int .i64 (z + 1))).alloc (.cells #[Value.pointer (some ⟨g, 0, none⟩)] 24)).drew = w5 at *
  have cz5 : w5.cell? (ad.add q) = some (.int .i64 z) := by
    have hbk : (ad.add q).block = ad.block := by unfold Addr.add; split <;> rfl
    exact (World.cell?_of_block (w := w) (F5.block _ (World.block_lt_of_cell? w _ cz) (by rw [hbk]; exact hg1))).trans cz
  have HF := Lib.hid F5
  clear F5 cz cz2 c1 f1
  go_wp2_with fail
  go_ret
  exact ⟨rfl, H5.out, HF.out⟩
end Go.Proofs.Ytnpapjocobgpnaa
