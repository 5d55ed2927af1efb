/- Clone's contract; the map of counts. -/
import Derived.Test.YtfcagjnedaaadaaP3
import Derived.Shelf.SlMaps.Clone
import Derived.Ground.SlmcProg
namespace Go.Proofs.Ytfcagjnedaaadaa
open Go.RowKit Go.Shelf

shelf_lay_g SlLaysW.n5 Slmc 5 at Try 41 as Try.cloneM

theorem mclone_any (b N : Nat) (g : Int → Option Value) (w : World) (h : MpV w b N g) :
    Calls Try.prog 41 #[.map (some b)] w fun e w' => e = .returned (.map (some w.heap.size)) ∧ MpV w' w.heap.size N g ∧ Below w.heap.size w w' := by
  obtain ⟨D, n, hn, ho, hs⟩ := h
  refine (AnyW.maps_Clone_owns Try.cloneM 3 RB b n D w ho).mono ?_
  rintro e w' ⟨rfl, h1, _, h2⟩
  exact ⟨rfl, ⟨D, n, hn, h1, hs⟩, h2⟩

set_option maxRecDepth 100000 in
theorem clones_any (g b : Nat) (S : Nat → Prop) (N L : Nat) (s : St) (w : World) (h : Sto w g b S N L s) :
    Calls Try.prog 16 #[.pointer (some ⟨g, 0, none⟩)] w fun e w' => ∃ g' b', e = .returned (.pointer (some ⟨g', 0, none⟩)) ∧ w.heap.size ≤ g' ∧ w.heap.size ≤ b' ∧ Sto w' g' b' (fun j => S j ∧ j < w.heap.size) N L s ∧ Below w.heap.size w w' := by
  have c0 := h.blk.cell 0
  have c1 := h.blk.cell 1
  have c2 := h.blk.cell 2
  have c3 := h.blk.cell 3
  simp at c0 c1 c2 c3
  have HLT := Lib.hid h.lt
  have H := Lib.hid h
  have k0 := fun o => cell_in_alloc c0 o
  obtain ⟨gv, hm, hh⟩ := HLT.out.hold
  have HM := Lib.hid hm
  have HH := Lib.hid hh
  clear h hm hh
  go_enter Try.func16, Try.ntmps16
  go_wp2_with fail
  obtain ⟨W, hW⟩ : ∃ W, W = w.alloc (Obj.cells #[Value.map (some b), Value.bool s.dead, Value.bool s.lit, Value.int IntKind.i64 s.left] 57) := ⟨_, rfl⟩
  have BW : Below w.heap.size w W := by rw [hW]; exact (Below.refl _ _).alloc (Nat.le_refl _) _
  have XW : Blk W w.heap.size #[Value.map (some b), Value.bool s.dead, Value.bool s.lit, Value.int IntKind.i64 s.left] 57 := by rw [hW]; exact Blk.new w _ 57
  rw [← hW]
  have HBW := Lib.hid BW
  have HXW := Lib.hid XW
  have sW : w.heap.size + 1 ≤ W.heap.size := by rw [hW]; simp
  clear hW BW XW k0 c0 c1 c2 c3
  refine (mclone_any b N gv W (HM.out.frm (Frm.of_below (S := fun _ => False) HBW.out) (fun h => h))).mono ?_
  rintro e w2 ⟨rfl, hm2, hb2⟩
  have HM2 := Lib.hid hm2
  have HX2 := Lib.hid (HXW.out.below hb2)
  have HB2 := Lib.hid (HBW.out.trans (hb2.mono (by omega)))
  have x0 := HX2.out.cell 0
  have f0 := HX2.out.free 0
  simp at x0
  clear hm2 hb2
  go_wp2_with fail
  go_ret
  have hf := (Frm.refl (· = w.heap.size) w2).setg (i := 0) (.map (some W.heap.size))
  have hset : Blk (w2.setCell ⟨w.heap.size, 0, none⟩ (.map (some W.heap.size))) w.heap.size #[Value.map (some W.heap.size), Value.bool s.dead, Value.bool s.lit, Value.int IntKind.i64 s.left] 57 := by
    have := HX2.out.set 0 (.map (some W.heap.size))
    simpa using this
  refine ⟨w.heap.size, W.heap.size, rfl, Nat.le_refl _, by omega, ⟨hset, by omega, H.out.l0, H.out.l1, ⟨gv, HM2.out.frm hf (by omega), ?_⟩, fun j hj => by omega⟩, HB2.out.setCell (Nat.le_refl _) _⟩
  exact (HH.out.frm (Frm.of_below (S := fun _ => False) HB2.out) (fun _ _ h => h)).frm hf (fun j hj e => by omega)

theorem zero3 (w : World) : (zeroValue 3).run Try.prog w = .ok (.int .i64 0) w := by kernel_rfl
/-- The element of the map of counts. -/
def cntV (c : Nat) : Option Value := if c = 0 then none else some (.int .i64 (c : Int))
set_option maxRecDepth 100000 in
theorem MpV.lookc {w : World} {b N : Nat} {cnt : Int → Nat} (h : MpV w b N (fun k => cntV (cnt k))) (k : Int) (hk : (Lit.int .i64 k).wf = true) :
    (Instr.lookup 27 (.map (some b)) (.int .i64 k) false).run Try.prog w = .ok (.int .i64 (cnt k : Int)) w := by
  obtain ⟨D, n, _, ho, hs⟩ := h
  obtain ⟨v', ps, hrun, hv'⟩ := ho.lookup law3 Try.underlying27 (zero3 w) (zd := .held (.int .i64 0)) (zp := []) rfl (Maps.keyOf_int_mk Try.underlying3 hk)
  have e := RB_inv hv'
  rw [hs] at e
  replace e : valD (DataW.held (.int .i64 0)) (cntV (cnt k)) = DataW.held v' := e
  obtain rfl : v' = .int .i64 (cnt k : Int) := by
    by_cases h0 : cnt k = 0
    · rw [show cntV (cnt k) = none from by simp [cntV, h0]] at e
      have e2 : (DataW.held (.int .i64 0) : DataW Value) = .held v' := e
      injection e2 with e2
      rw [← e2, h0]; rfl
    · rw [show cntV (cnt k) = some (.int .i64 (cnt k : Int)) from by simp [cntV, h0]] at e
      have e2 : (DataW.held (.int .i64 (cnt k : Int)) : DataW Value) = .held v' := e
      injection e2 with e2
      exact e2.symm
  exact hrun
def inc (cnt : Int → Nat) (n : Int) : Int → Nat := fun k => if k = n then cnt k + 1 else cnt k
set_option maxRecDepth 100000 in
theorem MpV.putc {w : World} {b N : Nat} {cnt : Int → Nat} (h : MpV w b N (fun k => cntV (cnt k))) (hN : N < maxLen) (k : Int) (hk : (Lit.int .i64 k).wf = true) (u : Int) (hu : (cnt k : Int) + 1 = u) :
    ∃ w', (Instr.mapUpdate 27 (.map (some b)) (.int .i64 k) (.int .i64 u)).run Try.prog w = .ok () w' ∧ MpV w' b (N + 1) (fun j => cntV (inc cnt k j)) ∧ Frm (· = b) w w' := by
  obtain ⟨D, n, hn, ho, hs⟩ := h
  obtain ⟨w', hrun, r1, r2⟩ := ho.update law3 Try.underlying27 (Nat.lt_of_le_of_lt hn hN) (Maps.keyOf_int_mk Try.underlying3 hk) (val := .int .i64 u) (d := .held (.int .i64 u)) (ps := []) rfl
  refine ⟨w', hrun, ⟨_, n + 1, by omega, r1, ?_⟩, (Frm.of_grown r2).mono (fun k e => by cases e; rfl)⟩
  have hp := hs.put (ho.tidy law3).isMap k hk (.int .i64 u)
  have e : (fun j => cntV (inc cnt k j)) = upd (fun k => cntV (cnt k)) k (some (.int .i64 u)) := by
    funext j
    by_cases e : j = k
    · subst e
      rw [upd_same]
      simp [inc, cntV, ← hu]
    · rw [upd_other _ _ e]
      simp [inc, e]
  rw [e]
  exact hp
theorem MpV.lenc {w : World} {b N : Nat} {g : Int → Option Value} (h : MpV w b N g) (ss : List Int) (hnd : ss.Nodup) (hmem : ∀ k, k ∈ ss ↔ (g k).isSome = true) (ty : TypeId) :
    (Builtin.len_ #[27] ty #[.map (some b)]).run Try.prog w = .ok (.int .i64 (ss.length : Int)) w := by
  obtain ⟨D, n, _, ho, hs⟩ := h
  rw [ho.len Try.underlying27 ty]
  obtain ⟨h1, h2⟩ := keys_facts ho
  have hl : (intKeys D).length = Maps.size D := by
    obtain ⟨es, rfl, _⟩ := ho.entries law3
    simp [intKeys, Maps.size]
  have hp : (intKeys D).Perm ss := (List.perm_ext_iff_of_nodup h1 hnd).2 (fun x => by rw [h2, hs.has, hmem])
  rw [← hl, hp.length_eq]
theorem own_form {w : World} {base e size n : Nat} {v : Value} {xs : List Value} (h : w.ownsRow base e size v n xs) (hn : 0 < n) : ∃ g c, v = .slice (some ⟨g, 0, none⟩) n c ∧ base ≤ g := by
  rcases h.2 with ⟨_, h0⟩ | ⟨g, cap, cur, rfl, hb, _⟩
  · omega
  · exact ⟨g, cap, rfl, hb⟩
/-- The end of a row of the call's own. -/
theorem own_tail {w : World} {base e g n c : Nat} {l1 l2 : List Int} {d m : Nat} (h : w.ownsRow base e 1 (.slice (some ⟨g, 0, none⟩) n c) n (u8s (l1 ++ l2))) (h1 : l1.length = d) (h2 : l2.length = m) (hn : n = d + m) :
    Sl w 1 (.slice (some ⟨g, d, none⟩) m (c - d)) m (u8s l2) := by
  obtain ⟨_, _, e', g1, g2, _⟩ := Sl.of_own h (u8s_one _)
  injection e' with _ _ e3
  subst e3
  refine ⟨_, c - d, rfl, by omega, by omega, by rw [u8s_length, h2]; omega, u8s_one _, fun _ => ⟨_, rfl, fun j u hj => ?_⟩⟩
  have hlt : j < (u8s l2).length := (List.getElem?_eq_some_iff.1 hj).1
  rw [u8s_length, h2] at hlt
  have ha : (⟨g, d, none⟩ : Addr).add j = ⟨g, d + j, none⟩ := by unfold Addr.add; split <;> simp_all
  rw [ha, h.cellAt (d + j) (by omega), u8s_append, List.getElem?_append_right (by rw [u8s_length, h1]; omega), u8s_length, h1, Nat.add_sub_cancel_left]
  exact hj
theorem rep_end (xb : List Int) (c : Nat) (h : c ≠ 0) : (List.replicate c xb).flatten = (List.replicate (c - 1) xb).flatten ++ xb := by
  cases c with
  | zero => exact absurd rfl h
  | succ c => rw [List.replicate_succ']; simp
theorem rep_head (x : Int) (r : List Int) (c : Nat) (h : c ≠ 0) : (u8s (List.replicate c (x :: r)).flatten)[0]? = some (.int .u8 x) := by
  cases c with
  | zero => exact absurd rfl h
  | succ c => rw [List.replicate_succ]; simp [u8s]
theorem byte_range {n : Int} (h : (Lit.int .u8 n).wf = true) : 0 ≤ n ∧ n ≤ 255 := by
  have h1 : IntKind.u8.min = 0 := rfl
  have h2 : IntKind.u8.max = 255 := rfl
  simp [Lit.wf] at h
  omega
/-- Every block its number's count of texts. -/
def blF (xb : List Int) (cnt : Int → Nat) : Int → Option Bk := fun k => fuF xb (cnt k)
theorem bl_bk (xb : List Int) (cnt : Int → Nat) (n : Int) : bkAt (blF xb cnt) n = ((List.replicate (cnt n) xb).flatten, 0, false) := by
  unfold bkAt blF fuF
  split
  · rename_i h; rw [h]; rfl
  · rfl
theorem bl_some (xb : List Int) (cnt : Int → Nat) (n : Int) : (blF xb cnt n).isSome = decide (cnt n ≠ 0) := by
  unfold blF fuF
  split
  · rename_i h; simp [h]
  · rename_i h; simp [h]
theorem bl_app (xb : List Int) (cnt : Int → Nat) (n : Int) (hn : 1 ≤ n) : appS (plainS (blF xb cnt)) n xb = (0, plainS (blF xb (inc cnt n))) := by
  rw [appS_plain _ n xb hn, bl_bk]
  congr 2
  funext k
  by_cases e : k = n
  · subst e
    rw [upd_same]
    unfold blF fuF inc
    rw [if_pos rfl, if_neg (by omega), List.replicate_succ']
    simp
  · rw [upd_other _ _ e]
    unfold blF inc
    rw [if_neg e]
theorem bl_zero (xb : List Int) : blF xb (fun _ => 0) = fun _ => none := by
  funext k
  rfl
theorem cntV_some (c : Nat) : (cntV c).isSome = decide (c ≠ 0) := by
  unfold cntV
  split
  · rename_i h; simp [h]
  · rename_i h; simp [h]

theorem ints_of_row {w : World} {a : Option Addr} {len cap : Nat} {zs : List Int} (h : (a = none ∧ len = 0 ∧ cap = 0 ∧ zs = []) ∨
  ∃ x, a = some x ∧ len ≤ cap ∧ cap ≤ maxLen ∧ zs.length = cap ∧ (∀ i, i < zs.length → w.cell? (x.add i) = some (.int .i64 (zs.getD i 0))) ∧ ∀ n ∈ zs, (Lit.int .i64 n).wf = true) :
    ∃ l : List Int, Sl w 1 (.slice a len cap) len (i64s l) := by
  rcases h with ⟨rfl, rfl, rfl, rfl⟩ | ⟨x, rfl, hl, hm, hz, hc, hw⟩
  · exact ⟨[], Sl.nil w 1⟩
  · refine ⟨zs.take len, ⟨some x, cap, rfl, hl, hm, by simp [i64s]; omega, i64s_one _, fun _ => ⟨x, rfl, fun j u hj => ?_⟩⟩⟩
    simp only [i64s, List.getElem?_map, Option.map_eq_some_iff] at hj
    obtain ⟨z, hz1, rfl⟩ := hj
    rw [List.getElem?_take] at hz1
    split at hz1
    · have hj2 : j < zs.length := (List.getElem?_eq_some_iff.1 hz1).1
      rw [hc j hj2, List.getD_eq_getElem?_getD, hz1]
      rfl
    · cases hz1
end Go.Proofs.Ytfcagjnedaaadaa
