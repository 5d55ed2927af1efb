/- May an event come behind these packets? -/
import Derived.Test.YtoplcndiejpipaaFe
namespace Go.Proofs.Ytoplcndiejpipaa
open Go.RowKit
set_option linter.unusedVariables false
set_option linter.unusedSimpArgs false

/-- The block of an event. -/
def EBlk (w : World) (S : Nat → Prop) (g : Nat) (e : Ev) : Prop := ∃ x y, Blk w g (ecells e (x, y)).toArray 27 ∧ EV w S e (x, y)
theorem EBlk.below {S : Nat → Prop} {w w' : World} {g : Nat} {e : Ev} (h : EBlk w S g e) (k : Below w.heap.size w w') : EBlk w' S g e := by
  obtain ⟨x, y, h1, h2⟩ := h
  exact ⟨x, y, h1.below k, h2.1.below k, h2.2.below k⟩

set_option maxHeartbeats 1000000 in
set_option maxRecDepth 100000 in
theorem may1_any (w : World) (S S' : Nat → Prop) (g : Nat) (e : Ev) (p : Pk) (v : Value) (b : Bool) (hb : decide (p = e.pk) = b) (h : EBlk w S g e) (hp : BV w S' v p.data) :
    Calls Try.prog 17 #[pagg p v, .pointer (some ⟨g, 0, none⟩)] w fun r w' => r = .returned (.bool b) ∧ Below w.heap.size w w' := by
  obtain ⟨x, y, hbk, hx⟩ := h
  obtain ⟨A, c, rfl, _⟩ := hx.2.len
  obtain ⟨B, d, rfl, _⟩ := hp.len
  have k0 := (Below.refl w.heap.size w).alloc (Nat.le_refl _) (.cells #[.int .i64 p.kind, .int .i64 p.path, .int .i64 p.number, .int .i64 p.of_, .int .i64 p.from_, .slice B p.data.length d, .bool p.fin, .int .i64 p.seen, .int .i64 p.limit] 25)
  have B0 := Lib.hid k0
  have HX := Lib.hid (hx.2.below k0)
  have HP := Lib.hid (hp.below k0)
  have hb2 := hbk.below k0
  have c3 := hb2.cell 3
  have c4 := hb2.cell 4
  have c5 := hb2.cell 5
  have c6 := hb2.cell 6
  have c7 := hb2.cell 7
  have c8 := hb2.cell 8
  have c9 := hb2.cell 9
  have c10 := hb2.cell 10
  have c11 := hb2.cell 11
  simp only [ecells, List.getElem?_toArray, List.getElem?_cons_zero, List.getElem?_cons_succ] at c3 c4 c5 c6 c7 c8 c9 c10 c11
  have HB := Lib.hid hb
  clear hbk hx hp k0 hb2 hb
  go_enter Try.func17, Try.ntmps17
  go_wp2_with fail
  refine (psame_at _ S' S p e.pk _ _ b HB.out HP.out HX.out).mono ?_
  rintro r w2 ⟨rfl, hb2⟩
  go_wp2_with fail
  go_ret
  exact ⟨rfl, B0.out.trans (hb2.mono B0.out.size)⟩

abbrev PRow (S : Nat → Prop) (w : World) (v : Value) (ps : List Pk) : Prop := RowV pcells 9 (fun w p x => BV w S x p.data) w v ps
theorem PRow.below {S : Nat → Prop} {w w' : World} {v : Value} {ps : List Pk} (h : PRow S w v ps) (k : Below w.heap.size w w') : PRow S w' v ps :=
  RowV.below h k (fun a b hab => hab.below k)
def PCells (w : World) (p : Addr) (k : Pk) (x : Value) : Prop :=
  w.cell? p = some (.int .i64 k.kind) ∧ w.cell? ⟨p.block, p.off + 1, none⟩ = some (.int .i64 k.path) ∧ w.cell? ⟨p.block, p.off + 2, none⟩ = some (.int .i64 k.number) ∧ w.cell? ⟨p.block, p.off + 3, none⟩ = some (.int .i64 k.of_) ∧ w.cell? ⟨p.block, p.off + 4, none⟩ = some (.int .i64 k.from_) ∧ w.cell? ⟨p.block, p.off + 5, none⟩ = some x ∧
    w.cell? ⟨p.block, p.off + 6, none⟩ = some (.bool k.fin) ∧ w.cell? ⟨p.block, p.off + 7, none⟩ = some (.int .i64 k.seen) ∧ w.cell? ⟨p.block, p.off + 8, none⟩ = some (.int .i64 k.limit)
theorem PRow.pk {S : Nat → Prop} {w : World} {A : Option Addr} {n c : Nat} {ps : List Pk} (h : PRow S w (.slice A n c) ps) {i : Nat} (hi : i < ps.length) : ∃ ad p x, A = some ad ∧ ps[i]? = some p ∧ BV w S x p.data ∧ PCells w (ad.add (i * 9)) p x := by
  obtain ⟨ad, p, x, rfl, he, hx, hc⟩ := RowV.at_ h (by omega) pcells_len hi
  have h0 := hc 0 _ rfl
  rw [addr_zero] at h0
  have g := fun (j : Nat) (hj : j ≠ 0) (u : Value) (hu : (pcells p x)[j]? = some u) => by
    have := hc j u hu
    rw [addr_pos _ _ hj] at this
    exact this
  exact ⟨ad, p, x, rfl, he, hx, h0, g 1 (by omega) _ rfl, g 2 (by omega) _ rfl, g 3 (by omega) _ rfl, g 4 (by omega) _ rfl, g 5 (by omega) _ rfl, g 6 (by omega) _ rfl, g 7 (by omega) _ rfl, g 8 (by omega) _ rfl⟩

/-- Found, or not. -/
def FoundR (b : Bool) (w : World) (r : Ending) (w' : World) : Prop := ∃ z : Int, r = .returned (.int .i64 z) ∧ (decide (0 ≤ z) = b) ∧ Below w.heap.size w w'
set_option maxHeartbeats 1000000 in
set_option maxRecDepth 100000 in
theorem idx_any (w : World) (S S' : Nat → Prop) (g : Nat) (e : Ev) (v : Value) (ps : List Pk) (h : EBlk w S g e) (hp : PRow S' w v ps) :
    Calls Try.prog 21 #[v, .func (.func 17) #[] #[.pointer (some ⟨g, 0, none⟩)]] w fun r w' => FoundR (decide (e.pk ∈ ps)) w r w' := by
  obtain ⟨A, c, rfl, hc1, hc2⟩ := hp.len
  unfold maxLen at hc2
  have H := Lib.hid h
  have P := Lib.hid hp
  clear h hp
  go_enter Try.func21, Try.ntmps21
  go_wp2_with fail
  go_loopw [8, 5] (fun i _ wr => ∃ k : Nat, k ≤ ps.length ∧ i = .int .i64 k ∧ e.pk ∉ ps.take k ∧ Below w.heap.size w wr) (fun i _ _ => ps.length - (intOf i).toNat)
  case atStart => exact ⟨0, Nat.zero_le _, rfl, by simp, Below.refl _ _⟩
  case round =>
    obtain ⟨k, hk, rfl, hno, hb⟩ := hrel
    have NO := Lib.hid hno
    have BR := Lib.hid hb
    have sr : w.heap.size ≤ wr.heap.size := hb.size
    clear hno hb
    by_cases hkn : k < ps.length
    · have k0 : (0 : Int) ≤ (k : Int) := by omega
      have k1 : (k : Int) < (ps.length : Int) := by omega
      have iwk : IntKind.i64.wrap ((k : Int) + 1) = (k : Int) + 1 := IntWalk.i64_in _ ⟨by omega, by omega⟩
      obtain ⟨ad, p, x, rfl, he, hx, hce⟩ := PRow.pk (P.out.below BR.out) hkn
      obtain ⟨a0, a1, a2, a3, a4, a5, a6, a7, a8⟩ := hce
      obtain ⟨b, hb⟩ : ∃ b, decide (p = e.pk) = b := ⟨_, rfl⟩
      have HB := Lib.hid hb
      have HE := Lib.hid he
      have HX := Lib.hid hx
      have TK : Hid (ps.take (k + 1) = ps.take k ++ [p]) := Lib.hid (by rw [List.take_add_one, he]; rfl)
      obtain ⟨X1, x1, rfl, _⟩ := hx.len
      clear hb he hx
      go_wp2_with fail
      refine (may1_any wr S S' g e p _ b HB.out (H.out.below BR.out) HX.out).mono ?_
      rintro r w2 ⟨rfl, hb2⟩
      have B2 := Lib.hid (BR.out.trans (hb2.mono sr))
      clear hb2
      cases b
      · go_wp2_with fail
        go_roundw
        case rel =>
          refine ⟨k + 1, by omega, by go_num, ?_, B2.out⟩
          rw [TK.out, List.mem_append]
          rintro (h | h)
          · exact NO.out h
          · have := HB.out
            simp at h this
            exact this h.symm
        case measure => simp [intOf]; omega
      · go_wp2_with fail
        go_ret
        refine ⟨_, rfl, ?_, B2.out⟩
        have h1 := HB.out
        simp at h1
        have h2 : e.pk ∈ ps := h1 ▸ List.mem_of_getElem? HE.out
        simp [h2]
    · have k1 : ¬ (k : Int) < (ps.length : Int) := by omega
      go_wp2_with fail
      go_ret
      refine ⟨_, rfl, ?_, BR.out⟩
      have := NO.out
      rw [List.take_of_length_le (by omega)] at this
      simp [this]

set_option maxHeartbeats 1000000 in
set_option maxRecDepth 100000 in
theorem cont_any (w : World) (S S' : Nat → Prop) (g : Nat) (e : Ev) (v : Value) (ps : List Pk) (h : EBlk w S g e) (hp : PRow S' w v ps) :
    Calls Try.prog 16 #[v, .func (.func 17) #[] #[.pointer (some ⟨g, 0, none⟩)]] w fun r w' => r = .returned (.bool (decide (e.pk ∈ ps))) ∧ Below w.heap.size w w' := by
  obtain ⟨A, c, rfl, _⟩ := hp.len
  have H := Lib.hid h
  have P := Lib.hid hp
  clear h hp
  obtain ⟨b, hb⟩ : ∃ b, decide (e.pk ∈ ps) = b := ⟨_, rfl⟩
  rw [hb]
  have HB := Lib.hid hb
  clear hb
  go_enter Try.func16, Try.ntmps16
  go_wp2_with fail
  refine (idx_any w S S' g e _ ps H.out P.out).mono ?_
  rintro r w2 ⟨z, rfl, hz, hb2⟩
  rw [HB.out] at hz
  have HZ := Lib.hid hz
  clear hz
  go_wp2_with fail
  go_ret
  exact ⟨congrArg (fun b => Ending.returned (.bool b)) HZ.out, hb2⟩
set_option maxHeartbeats 1000000 in
set_option maxRecDepth 100000 in
theorem may_any (w : World) (S S' : Nat → Prop) (e : Ev) (x y v : Value) (ps : List Pk) (hx : EV w S e (x, y)) (hp : PRow S' w v ps) :
    Calls Try.prog 13 #[eagg e x y, v] w fun r w' => r = .returned (.bool (decide (e.kind ≠ 4 ∨ e.pk ∈ ps))) ∧ Below w.heap.size w w' := by
  obtain ⟨A, c, rfl, _⟩ := hx.1.len
  obtain ⟨B, d, rfl, _⟩ := hx.2.len
  have k0 := (Below.refl w.heap.size w).alloc (Nat.le_refl _) (.cells #[.int .i64 e.kind, .int .i64 e.n, .slice A e.data.length c, .int .i64 e.pk.kind, .int .i64 e.pk.path, .int .i64 e.pk.number, .int .i64 e.pk.of_, .int .i64 e.pk.from_, .slice B e.pk.data.length d, .bool e.pk.fin, .int .i64 e.pk.seen, .int .i64 e.pk.limit] 27)
  have EB : Hid (EBlk (w.alloc (.cells #[.int .i64 e.kind, .int .i64 e.n, .slice A e.data.length c, .int .i64 e.pk.kind, .int .i64 e.pk.path, .int .i64 e.pk.number, .int .i64 e.pk.of_, .int .i64 e.pk.from_, .slice B e.pk.data.length d, .bool e.pk.fin, .int .i64 e.pk.seen, .int .i64 e.pk.limit] 27)) S w.heap.size e) := Lib.hid ⟨_, _, Blk.new w _ 27, hx.1.below k0, hx.2.below k0⟩
  have P := Lib.hid (hp.below k0)
  have B0 := Lib.hid k0
  clear hx hp k0
  by_cases h4 : e.kind = 4
  · have hk : (e.kind != 4) = false := by simpa using h4
    have H4 := Lib.hid h4
    clear h4
    go_enter Try.func13, Try.ntmps13
    go_wp2_with fail
    refine (cont_any _ S S' w.heap.size e v ps EB.out P.out).mono ?_
    rintro r w2 ⟨rfl, hb2⟩
    go_wp2_with fail
    go_ret
    exact ⟨by simp [H4.out], B0.out.trans (hb2.mono B0.out.size)⟩
  · have hk : (e.kind != 4) = true := by simpa using h4
    have H4 := Lib.hid h4
    clear h4
    go_enter Try.func13, Try.ntmps13
    go_wp2_with fail
    go_ret
    exact ⟨by simp [H4.out], B0.out⟩
theorem may_at (w : World) (S S' : Nat → Prop) (e : Ev) (x y v : Value) (ps : List Pk) (b : Bool) (hb : decide (e.kind ≠ 4 ∨ e.pk ∈ ps) = b) (hx : EV w S e (x, y)) (hp : PRow S' w v ps) :
    Calls Try.prog 13 #[eagg e x y, v] w fun r w' => r = .returned (.bool b) ∧ Below w.heap.size w w' := hb ▸ may_any w S S' e x y v ps hx hp
end Go.Proofs.Ytoplcndiejpipaa
