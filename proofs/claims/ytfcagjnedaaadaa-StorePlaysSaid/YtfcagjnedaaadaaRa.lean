/- The reference's store: its shape, and its smallest functions. -/
import Derived.Test.YtfcagjnedaaadaaCm
namespace Go.Proofs.Ytfcagjnedaaadaa
open Go.RowKit
attribute [local go_sem] run_max2 run_min2 run_max_ run_min_

/-- The cells of one of the reference's blocks, whose bytes are the slice v. -/
def rcell (x : Int × Bk) (v : Value) : List Value := [.int .i64 x.1, v, .int .i64 x.2.2.1, .bool x.2.2.2]
def rcells : List (Int × Bk) → List Value → List Value
  | x :: l, v :: vs => rcell x v ++ rcells l vs
  | _, _ => []
theorem rcells_length : ∀ (l : List (Int × Bk)) (vs : List Value), vs.length = l.length → (rcells l vs).length = l.length * 4
  | [], [], _ => rfl
  | x :: l, v :: vs, h => by
    simp only [rcells, List.length_append, rcell, List.length_cons, List.length_nil] at h ⊢
    rw [rcells_length l vs (by omega)]
    omega
theorem rcells_get : ∀ (l : List (Int × Bk)) (vs : List Value) (i j : Nat) (x : Int × Bk) (v : Value), l[i]? = some x → vs[i]? = some v → j < 4 → (rcells l vs)[i * 4 + j]? = (rcell x v)[j]?
  | x :: l, v :: vs, 0, j, _, _, h1, h2, hj => by
    simp at h1 h2
    subst h1
    subst h2
    simp only [rcells, Nat.zero_mul, Nat.zero_add]
    rw [List.getElem?_append_left (by simp [rcell]; omega)]
  | x :: l, v :: vs, i + 1, j, _, _, h1, h2, hj => by
    simp only [List.getElem?_cons_succ] at h1 h2
    simp only [rcells]
    rw [List.getElem?_append_right (by simp [rcell]; omega)]
    have e : (i + 1) * 4 + j - (rcell x v).length = i * 4 + j := by simp [rcell]; omega
    rw [e]
    exact rcells_get l vs i j _ _ h1 h2 hj
  | [], _, i, j, _, _, h1, _, _ => by simp at h1
  | _ :: _, [], i, j, _, _, _, h2, _ => by simp at h2

/-- A block's bytes: a slice that reads so; its memory lies among S. -/
def RB1 (w : World) (S : Nat → Prop) (L : Nat) (x : Int × Bk) (v : Value) : Prop :=
  ∃ A c, v = .slice A x.2.1.length c ∧ Sl w 1 v x.2.1.length (u8s x.2.1) ∧ (0 < x.2.1.length → ∀ j, v.ownBlock = some j → S j ∧ j < w.heap.size) ∧ 0 ≤ x.2.2.1 ∧ x.2.2.1 ≤ x.2.1.length ∧ x.2.1.length ≤ L ∧ (Lit.int .i64 x.1).wf = true

/-- The reference's store at block g. -/
structure RSt (w : World) (g : Nat) (S : Nat → Prop) (base L : Nat) (v : Value) (l : List (Int × Bk)) (dead armed : Bool) (N : Int) : Prop where
  blk : ∃ (vs : List Value), Blk w g #[v, .bool dead, .bool armed, .int .i64 N] 44 ∧ w.ownsRow base 71 4 v l.length (rcells l vs) ∧ vs.length = l.length ∧ (∀ (i : Nat) (x : Int × Bk) (u : Value), l[i]? = some x → vs[i]? = some u → RB1 w S L x u) ∧ (∀ j, v.ownBlock = some j → j ≠ g ∧ ¬ S j)
  base : base ≤ g
  av : ∀ j, S j → j ≠ g

/-- Where a number stands. -/
def atN (n : Int) : List (Int × Bk) → Nat
  | [] => 0
  | x :: l => if x.1 = n then 0 else atN n l + 1

set_option maxRecDepth 100000 in
theorem stops_go (w : World) (g : Nat) (v : Value) (dead armed : Bool) (N : Int) (hb : Blk w g #[v, .bool dead, .bool armed, .int .i64 N] 44) (hc : ¬ (armed = true ∧ N = 0)) (hN : -1000000 ≤ N ∧ N ≤ 1000000) :
    Calls Try.prog 47 #[.pointer (some ⟨g, 0, none⟩)] w fun e w' => e = .returned (.bool false) ∧ w' = w.setCell ⟨g, 3, none⟩ (.int .i64 (N - 1)) := by
  have c2 := hb.cell 2
  have c3 := hb.cell 3
  have f3 := hb.free 3
  simp at c2 c3
  have iw : IntKind.i64.wrap (N - 1) = N - 1 := IntWalk.i64_in _ ⟨by omega, by omega⟩
  cases armed
  · go_enter Try.func47, Try.ntmps47
    go_wp2
    go_ret
    exact ⟨rfl, rfl⟩
  · have hN0 : ¬ N = 0 := fun h => hc ⟨rfl, h⟩
    have hN1 : (N == 0) = false := by simpa using hN0
    go_enter Try.func47, Try.ntmps47
    go_wp2
    go_ret
    exact ⟨rfl, rfl⟩
set_option maxRecDepth 100000 in
theorem stops_fuse (w : World) (g : Nat) (v : Value) (dead : Bool) (hb : Blk w g #[v, .bool dead, .bool true, .int .i64 0] 44) :
    Calls Try.prog 47 #[.pointer (some ⟨g, 0, none⟩)] w fun e w' => e = .returned (.bool true) ∧ w' = w.setCell ⟨g, 1, none⟩ (.bool true) := by
  have c1 := hb.cell 1
  have c2 := hb.cell 2
  have c3 := hb.cell 3
  have f1 := hb.free 1
  simp at c1 c2 c3
  go_enter Try.func47, Try.ntmps47
  go_wp2
  go_ret
  exact ⟨rfl, rfl⟩

theorem atN_le (n : Int) (l : List (Int × Bk)) : atN n l ≤ l.length := by
  induction l with
  | nil => exact Nat.le_refl _
  | cons x l ih => unfold atN; split <;> simp <;> omega
theorem atN_lt (n : Int) (l : List (Int × Bk)) (i : Nat) (x : Int × Bk) (hi : i < atN n l) (hx : l[i]? = some x) : x.1 ≠ n := by
  induction l generalizing i with
  | nil => simp at hx
  | cons y l ih =>
    unfold atN at hi
    split at hi
    · omega
    · rename_i hne
      cases i with
      | zero => simp at hx; subst hx; exact hne
      | succ i => exact ih i (by omega) (by simpa using hx)
theorem atN_hit (n : Int) (l : List (Int × Bk)) (x : Int × Bk) (hx : l[atN n l]? = some x) : x.1 = n := by
  induction l with
  | nil => simp at hx
  | cons y l ih =>
    unfold atN at hx
    split at hx
    · rename_i h; simp at hx; subst hx; exact h
    · exact ih (by simpa using hx)
theorem atN_go (n : Int) (l : List (Int × Bk)) (k : Nat) (x : Int × Bk) (hk : k ≤ atN n l) (hx : l[k]? = some x) : (x.1 = n → atN n l = k) ∧ (x.1 ≠ n → k + 1 ≤ atN n l) := by
  constructor
  · intro e
    rcases Nat.lt_or_ge k (atN n l) with h | h
    · exact absurd e (atN_lt n l k x h hx)
    · omega
  · intro e
    rcases Nat.lt_or_ge k (atN n l) with h | h
    · omega
    · obtain rfl : k = atN n l := by omega
      exact absurd (atN_hit n l x hx) e

set_option maxRecDepth 100000 in
theorem at_any (w : World) (g : Nat) (S : Nat → Prop) (base L : Nat) (v : Value) (l : List (Int × Bk)) (dead armed : Bool) (N : Int) (h : RSt w g S base L v l dead armed N) (hl : l.length ≤ 1000) (n r : Int) (hr : r = if atN n l < l.length then (atN n l : Int) else -1) :
    Calls Try.prog 48 #[.pointer (some ⟨g, 0, none⟩), .int .i64 n] w fun e w' => e = .returned (.int .i64 r) ∧ w = w' := by
  obtain ⟨vs, hb, ho, hvl, _, _⟩ := h.blk
  obtain ⟨A, c, rfl⟩ := own_slice' ho
  have c0 := hb.cell 0
  simp at c0
  have HO := Lib.hid ho
  have HR := Lib.hid hr
  clear ho hr h
  go_enter Try.func48, Try.ntmps48
  go_wp2_with fail
  go_loopw [11, 5] (fun i _ wq => ∃ k : Nat, k ≤ atN n l ∧ i = .int .i64 k ∧ w = wq) (fun i _ _ => l.length - (intOf i).toNat)
  case atStart => exact ⟨0, Nat.zero_le _, rfl, rfl⟩
  case round =>
    obtain ⟨k, hk, rfl, rfl⟩ := hrel
    have hle := atN_le n l
    by_cases hkl : k < l.length
    · have k1 : (k : Int) < (l.length : Int) := by omega
      have k0 : (0 : Int) ≤ (k : Int) := by omega
      have iwk : IntKind.i64.wrap ((k : Int) + 1) = (k : Int) + 1 := IntWalk.i64_in _ ⟨by omega, by omega⟩
      obtain ⟨x, hx⟩ : ∃ x, l[k]? = some x := ⟨_, List.getElem?_eq_getElem hkl⟩
      obtain ⟨hgo1, hgo2⟩ := atN_go n l k x hk hx
      obtain ⟨ga, ca, e, hga⟩ := own_form HO.out (by omega)
      injection e with e1 e2 e3
      subst e1
      subst e3
      have cx : w.cell? ⟨ga, k * 4, none⟩ = some (.int .i64 x.1) := by
        have h1 := HO.out.cellAt (k * 4) (by omega)
        obtain ⟨u, hu⟩ : ∃ u, vs[k]? = some u := ⟨_, List.getElem?_eq_getElem (by omega)⟩
        rw [h1, show k * 4 = k * 4 + 0 from rfl, rcells_get l vs k 0 x u hx hu (by omega)]
        rfl
      obtain ⟨xn, hxn⟩ : ∃ m, x.1 = m := ⟨_, rfl⟩
      rw [hxn] at cx hgo1 hgo2
      clear hx hxn
      by_cases he : xn = n
      · subst he
        have hat := hgo1 rfl
        have hr := HR.out
        rw [hat, if_pos hkl] at hr
        subst hr
        clear hgo1 hgo2
        go_wp2_with fail
        go_ret
        exact ⟨rfl, rfl⟩
      · have hst := hgo2 he
        have he2 : (xn == n) = false := by simpa using he
        clear hgo1 hgo2
        go_wp2_with fail
        go_roundw
        case rel => exact ⟨k + 1, hst, by go_num, by first | rfl | trivial⟩
        case measure => simp [intOf]; omega
    · have k1 : ¬ (k : Int) < (l.length : Int) := by omega
      have hr := HR.out
      rw [if_neg (by omega)] at hr
      subst hr
      go_wp2_with fail
      go_ret
      exact ⟨rfl, rfl⟩
end Go.Proofs.Ytfcagjnedaaadaa
