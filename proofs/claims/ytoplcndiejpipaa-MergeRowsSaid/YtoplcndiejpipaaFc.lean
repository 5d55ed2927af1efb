/- Rows of events; whether two of them are alike. -/
import Derived.Test.YtoplcndiejpipaaFb
namespace Go.Proofs.Ytoplcndiejpipaa
open Go.RowKit
set_option linter.unusedVariables false
set_option linter.unusedSimpArgs false

theorem addr_zero (a : Addr) : a.add 0 = a := by unfold Addr.add; simp
theorem addr_pos (a : Addr) (j : Nat) (hj : j ≠ 0) : a.add j = ⟨a.block, a.off + j, none⟩ := by unfold Addr.add; simp [hj]
theorem addr_add (a : Addr) (i j : Nat) : (a.add i).add j = a.add (i + j) := by
  unfold Addr.add
  by_cases hi : i = 0 <;> by_cases hj : j = 0 <;> simp [hi, hj, Nat.add_assoc]
theorem ecells_len (e : Ev) (x : Value × Value) : (ecells e x).length = 12 := rfl
theorem ncells_len (e : Int × Ev) (x : Value × Value) : (ncells e x).length = 13 := rfl
theorem pcells_len (e : Pk) (x : Value) : (pcells e x).length = 9 := rfl

/-- A row of things of k cells each, which lie as X says. -/
def RowV {α β : Type} (f : α → β → List Value) (k : Nat) (X : World → α → β → Prop) (w : World) (v : Value) (l : List α) : Prop :=
  ∃ vs : List β, vs.length = l.length ∧ Sl w k v l.length (rowsG f l vs) ∧ ∀ (i : Nat) (a : α) (b : β), l[i]? = some a → vs[i]? = some b → X w a b
section
variable {α β : Type} {f : α → β → List Value} {k : Nat} {X : World → α → β → Prop} {w w' : World} {v : Value} {l : List α}
theorem RowV.below (h : RowV f k X w v l) (kb : Below w.heap.size w w') (hX : ∀ a b, X w a b → X w' a b) : RowV f k X w' v l := by
  obtain ⟨vs, h1, h2, h3⟩ := h
  exact ⟨vs, h1, h2.below kb, fun i a b ha hb => hX a b (h3 i a b ha hb)⟩
theorem RowV.len (h : RowV f k X w v l) : ∃ A c, v = .slice A l.length c ∧ l.length ≤ c ∧ c ≤ maxLen := by
  obtain ⟨vs, _, ⟨A, c, rfl, h1, h2, _⟩, _⟩ := h
  exact ⟨A, c, rfl, h1, h2⟩
/-- The i-th of them. -/
theorem RowV.at_ {A : Option Addr} {n c : Nat} (h : RowV f k X w (.slice A n c) l) (hk : 0 < k) (hf : ∀ a b, (f a b).length = k) {i : Nat} (hi : i < l.length) : ∃ ad a b, A = some ad ∧ l[i]? = some a ∧ X w a b ∧ ∀ j u, (f a b)[j]? = some u → w.cell? ((ad.add (i * k)).add j) = some u := by
  obtain ⟨vs, h1, ⟨A', c', e, _, _, h6, _, h5⟩, h3⟩ := h
  injection e with e1 e2 e3
  subst e1
  have hpos : 0 < (rowsG f l vs).length := by rw [h6]; exact Nat.mul_pos (by omega) hk
  obtain ⟨ad, rfl, hc⟩ := h5 hpos
  refine ⟨ad, l[i], vs[i]'(by omega), rfl, List.getElem?_eq_getElem hi, h3 i _ _ (List.getElem?_eq_getElem hi) (List.getElem?_eq_getElem (by omega)), fun j u hj => ?_⟩
  rw [addr_add]
  have hlt := (List.getElem?_eq_some_iff.1 hj).1
  rw [hf] at hlt
  exact hc _ u (by rw [rowsG_get hf l vs i j _ _ (List.getElem?_eq_getElem hi) (List.getElem?_eq_getElem (by omega)) hlt]; exact hj)
end
abbrev ERow (S : Nat → Prop) (w : World) (v : Value) (es : List Ev) : Prop := RowV ecells 12 (fun w e x => EV w S e x) w v es
theorem ERow.below {S : Nat → Prop} {w w' : World} {v : Value} {es : List Ev} (h : ERow S w v es) (k : Below w.heap.size w w') : ERow S w' v es :=
  RowV.below h k (fun a b hab => ⟨hab.1.below k, hab.2.below k⟩)
/-- The cells of an event at an address. -/
def ECells (w : World) (p : Addr) (e : Ev) (x : Value × Value) : Prop :=
  w.cell? p = some (.int .i64 e.kind) ∧ w.cell? ⟨p.block, p.off + 1, none⟩ = some (.int .i64 e.n) ∧ w.cell? ⟨p.block, p.off + 2, none⟩ = some x.1 ∧ w.cell? ⟨p.block, p.off + 3, none⟩ = some (.int .i64 e.pk.kind) ∧ w.cell? ⟨p.block, p.off + 4, none⟩ = some (.int .i64 e.pk.path) ∧ w.cell? ⟨p.block, p.off + 5, none⟩ = some (.int .i64 e.pk.number) ∧
    w.cell? ⟨p.block, p.off + 6, none⟩ = some (.int .i64 e.pk.of_) ∧ w.cell? ⟨p.block, p.off + 7, none⟩ = some (.int .i64 e.pk.from_) ∧ w.cell? ⟨p.block, p.off + 8, none⟩ = some x.2 ∧ w.cell? ⟨p.block, p.off + 9, none⟩ = some (.bool e.pk.fin) ∧ w.cell? ⟨p.block, p.off + 10, none⟩ = some (.int .i64 e.pk.seen) ∧ w.cell? ⟨p.block, p.off + 11, none⟩ = some (.int .i64 e.pk.limit)
theorem ERow.ev {S : Nat → Prop} {w : World} {A : Option Addr} {n c : Nat} {es : List Ev} (h : ERow S w (.slice A n c) es) {i : Nat} (hi : i < es.length) : ∃ ad e x y, A = some ad ∧ es[i]? = some e ∧ EV w S e (x, y) ∧ ECells w (ad.add (i * 12)) e (x, y) := by
  obtain ⟨ad, e, ⟨x, y⟩, rfl, he, hx, hc⟩ := RowV.at_ h (by omega) ecells_len hi
  have h0 := hc 0 _ rfl
  rw [addr_zero] at h0
  have g := fun (j : Nat) (hj : j ≠ 0) (u : Value) (hu : (ecells e (x, y))[j]? = some u) => by
    have := hc j u hu
    rw [addr_pos _ _ hj] at this
    exact this
  exact ⟨ad, e, x, y, rfl, he, hx, h0, g 1 (by omega) _ rfl, g 2 (by omega) _ rfl, g 3 (by omega) _ rfl, g 4 (by omega) _ rfl, g 5 (by omega) _ rfl, g 6 (by omega) _ rfl, g 7 (by omega) _ rfl, g 8 (by omega) _ rfl, g 9 (by omega) _ rfl, g 10 (by omega) _ rfl, g 11 (by omega) _ rfl⟩

set_option maxHeartbeats 4000000 in
set_option maxRecDepth 100000 in
theorem all_any (w : World) (S S' : Nat → Prop) (v u : Value) (es fs : List Ev) (h : ERow S w v es) (h' : ERow S' w u fs) :
    Calls Try.prog 9 #[v, u] w fun e w' => e = .returned (.bool (decide (es = fs))) ∧ Below w.heap.size w w' := by
  obtain ⟨A, c, rfl, hc1, hc2⟩ := h.len
  obtain ⟨B, d, rfl, hd1, hd2⟩ := h'.len
  unfold maxLen at hc2 hd2
  have H := Lib.hid h
  have H' := Lib.hid h'
  clear h h'
  by_cases hl : es.length = fs.length
  · obtain ⟨n, hn⟩ : ∃ n, fs.length = n := ⟨_, rfl⟩
    rw [hn] at hl hd1 H' ⊢
    rw [hl] at hc1 H ⊢
    have HN := Lib.hid hn
    have HL := Lib.hid hl
    have he : ((n : Int) != n) = false := by simp
    clear hn hl
    go_enter Try.func9, Try.ntmps9
    go_wp2_with fail
    go_loopw [13, 5] (fun i _ wr => ∃ k : Nat, k ≤ n ∧ i = .int .i64 k ∧ es.take k = fs.take k ∧ Below w.heap.size w wr) (fun i _ _ => n - (intOf i).toNat)
    case atStart => exact ⟨0, Nat.zero_le _, rfl, rfl, Below.refl _ _⟩
    case round =>
      obtain ⟨k, hk, rfl, htk, hb⟩ := hrel
      have TK := Lib.hid htk
      have BR := Lib.hid hb
      clear htk hb
      by_cases hkn : k < n
      · have k0 : (0 : Int) ≤ (k : Int) := by omega
        have k1 : (k : Int) < (n : Int) := by omega
        have iwk : IntKind.i64.wrap ((k : Int) + 1) = (k : Int) + 1 := IntWalk.i64_in _ ⟨by omega, by omega⟩
        obtain ⟨ad, e, x, y, rfl, he', hx, hce⟩ := ERow.ev (H.out.below BR.out) (by rw [HL.out]; exact hkn)
        obtain ⟨bd, f, x', y', rfl, hf', hx', hcf⟩ := ERow.ev (H'.out.below BR.out) (by rw [HN.out]; exact hkn)
        obtain ⟨a0, a1, a2, a3, a4, a5, a6, a7, a8, a9, a10, a11⟩ := hce
        obtain ⟨b0, b1, b2, b3, b4, b5, b6, b7, b8, b9, b10, b11⟩ := hcf
        obtain ⟨q, hq⟩ : ∃ q, decide (e = f) = q := ⟨_, rfl⟩
        have HQ := Lib.hid hq
        have HE := Lib.hid he'
        have HF := Lib.hid hf'
        have EX := Lib.hid (hx.frm ((Frm.refl (fun _ => False) wr).drew) (fun _ _ h => h))
        have EX' := Lib.hid (hx'.frm ((Frm.refl (fun _ => False) wr).drew) (fun _ _ h => h))
        have SE : Hid (es.take (k + 1) = es.take k ++ [e]) := Lib.hid (by rw [List.take_add_one, he']; rfl)
        have SF : Hid (fs.take (k + 1) = fs.take k ++ [f]) := Lib.hid (by rw [List.take_add_one, hf']; rfl)
        clear hq he' hf' hx hx'
        cases q
        · go_wp2_with fail
          go_region_with ((first | (go_at_call 15; (with_reducible refine (sev_at _ S S' e f x y x' y' false HQ.out EX.out EX'.out).mono ?_); rintro r w2 ⟨rfl, hb2⟩; have B2 := Lib.hid hb2; clear hb2) | fail))
          all_goals
            go_wp2_with fail
            go_ret
            refine ⟨?_, BR.out.trans (show Below w.heap.size wr w2 from ⟨B2.out.os, B2.out.tape, B2.out.output, B2.out.size, fun i hi => B2.out.block i (Nat.lt_of_lt_of_le hi BR.out.size)⟩)⟩
            have : ¬ es = fs := fun h => by
              have h1 := HE.out
              rw [h, HF.out] at h1
              injection h1 with h1
              have := HQ.out
              simp [h1] at this
            simp [this]
        · go_wp2_with fail
          go_region_with ((first | (go_at_call 15; (with_reducible refine (sev_at _ S S' e f x y x' y' true HQ.out EX.out EX'.out).mono ?_); rintro r w2 ⟨rfl, hb2⟩; have B2 := Lib.hid hb2; clear hb2) | fail))
          all_goals
            go_wp2_with fail
            go_roundw
            case rel => exact ⟨k + 1, by omega, by go_num, by rw [SE.out, SF.out, TK.out, of_decide_eq_true HQ.out], BR.out.trans (show Below w.heap.size wr w2 from ⟨B2.out.os, B2.out.tape, B2.out.output, B2.out.size, fun i hi => B2.out.block i (Nat.lt_of_lt_of_le hi BR.out.size)⟩)⟩
            case measure => simp [intOf]; omega
      · have k1 : ¬ (k : Int) < (n : Int) := by omega
        go_wp2_with fail
        go_ret
        refine ⟨?_, BR.out⟩
        have h1 : es = fs := by
          have := TK.out
          rwa [List.take_of_length_le (by have := HL.out; omega), List.take_of_length_le (by have := HN.out; omega)] at this
        simp [h1]
  · have he : ((es.length : Int) != (fs.length : Int)) = true := by rw [bne_iff_ne]; omega
    have hne : ¬ es = fs := fun h => hl (by rw [h])
    have HNE := Lib.hid hne
    clear hl hne
    go_enter Try.func9, Try.ntmps9
    go_wp2_with fail
    go_ret
    exact ⟨by simp [HNE.out], Below.refl _ _⟩
theorem all_at (w : World) (S S' : Nat → Prop) (v u : Value) (es fs : List Ev) (b : Bool) (hb : decide (es = fs) = b) (h : ERow S w v es) (h' : ERow S' w u fs) :
    Calls Try.prog 9 #[v, u] w fun e w' => e = .returned (.bool b) ∧ Below w.heap.size w w' := hb ▸ all_any w S S' v u es fs h h'
end Go.Proofs.Ytoplcndiejpipaa
