/- The contracts of the store's functions. -/
import Derived.Test.YtfcagjnedaaadaaMp
import Derived.Test.YtfcagjnedaaadaaHM
import Derived.BigQuiet
import Derived.Laws.Rows
namespace Go.Proofs.Ytfcagjnedaaadaa
open Go.RowKit
attribute [local go_sem] run_max2 run_min2 run_max_ run_min_

/-- A block: its bytes, how many are synced, whether it is firm. -/
abbrev Bk := List Int × Int × Bool
def u8s (l : List Int) : List Value := l.map fun n : Int => .int .u8 n
theorem u8s_one (l : List Int) : ∀ u ∈ u8s l, u.oneCell' = true := by simp [u8s, Value.oneCell']
theorem u8s_length (l : List Int) : (u8s l).length = l.length := by simp [u8s]
theorem u8s_append (l k : List Int) : u8s (l ++ k) = u8s l ++ u8s k := by simp [u8s]
theorem u8s_take (l : List Int) (n : Nat) : (u8s l).take n = u8s (l.take n) := by simp [u8s, List.map_take]

/-- The store's state. -/
structure St where
  f : Int → Option Bk
  dead : Bool
  lit : Bool
  left : Int

def BlkAt (w : World) (S : Nat → Prop) (L : Nat) (v : Value) (x : Bk) : Prop :=
  ∃ A c, v = .agg #[.slice A x.1.length c, .int .i64 x.2.1, .bool x.2.2] ∧ Sl w 1 (.slice A x.1.length c) x.1.length (u8s x.1) ∧
    (0 < x.1.length → ∀ j, (Value.slice A x.1.length c).ownBlock = some j → S j) ∧ 0 ≤ x.2.1 ∧ x.2.1 ≤ x.1.length ∧ x.1.length ≤ L

def Hold (w : World) (S : Nat → Prop) (L : Nat) (g : Int → Option Value) (f : Int → Option Bk) : Prop :=
  ∀ k, (f k = none ∧ g k = none) ∨ ∃ x v, f k = some x ∧ g k = some v ∧ BlkAt w S L v x

/-- The store at block g, its map at block b; its blocks' bytes lie in blocks of S. -/
structure Sto (w : World) (g b : Nat) (S : Nat → Prop) (N L : Nat) (s : St) : Prop where
  blk : Blk w g #[.map (some b), .bool s.dead, .bool s.lit, .int .i64 s.left] 57
  ne : g ≠ b
  l0 : 0 ≤ s.left
  l1 : s.left ≤ 9223372036854775807
  hold : ∃ gv, MpV w b N gv ∧ Hold w S L gv s.f
  av : ∀ j, S j → j ≠ g ∧ j ≠ b

theorem new_any (w : World) : Calls Try.prog 8 #[] w fun e w' => ∃ g b, e = .returned (.pointer (some ⟨g, 0, none⟩)) ∧ w.heap.size ≤ g ∧ w.heap.size ≤ b ∧ Sto w' g b (fun _ => False) 0 0 ⟨fun _ => none, false, false, 0⟩ ∧ Below w.heap.size w w' := by
  have hu := Try.underlying57
  have hmm := @run_makeMap Try.prog
  go_enter Try.func8, Try.ntmps8
  go_wp2
  go_ret
  refine ⟨_, w.heap.size, rfl, by omega, Nat.le_refl _, ⟨?_, by omega, by decide, by decide, ⟨_, (MpV.made w).frm ((Frm.refl (fun _ => False) _).alloc _) (fun h => h), fun k => .inl ⟨rfl, rfl⟩⟩, fun j h => h.elim⟩, ((Below.refl _ _).alloc (Nat.le_refl _) _).alloc (by simp) _⟩
  have := Blk.new (w.alloc (.map #[] 0)) #[Value.map (some w.heap.size), Value.bool false, Value.bool false, Value.int IntKind.i64 0] 57
  simpa using this

def mayS (s : St) (n : Int) : Int := if s.dead = true then 6 else if n < 1 then 1 else 0
theorem may_any (g b : Nat) (S : Nat → Prop) (N L : Nat) (s : St) (n : Int) (w : World) (h : Sto w g b S N L s) : Calls Try.prog 34 #[.pointer (some ⟨g, 0, none⟩), .int .i64 n] w fun e w' => e = .returned (.int .i64 (mayS s n)) ∧ w = w' := by
  obtain ⟨f, dead, lit, left⟩ := s
  have c1 := h.blk.cell 1
  simp at c1
  clear h
  cases dead <;> by_cases hn : n < 1
  all_goals
    go_enter Try.func34, Try.ntmps34
    go_wp2
    go_ret
    simp [mayS, hn]

theorem dead_any (g b : Nat) (S : Nat → Prop) (N L : Nat) (s : St) (w : World) (h : Sto w g b S N L s) : Calls Try.prog 32 #[.pointer (some ⟨g, 0, none⟩)] w fun e w' => e = .returned (.bool s.dead) ∧ w = w' := by
  obtain ⟨f, dead, lit, left⟩ := s
  have c1 := h.blk.cell 1
  simp at c1
  clear h
  go_enter Try.func32, Try.ntmps32
  go_wp2
  go_ret
  exact ⟨rfl, rfl⟩

theorem Try.size60 : (Try.prog.info? 60).map (·.size) = some 3 := by kernel_rfl
theorem firm_any (A : Option Addr) (n c : Nat) (w : World) : Calls Try.prog 44 #[.slice A n c] w fun e w' => e = .returned (.agg #[.slice A n c, .int .i64 n, .bool true]) ∧ Below w.heap.size w w' := by
  go_enter Try.func44, Try.ntmps44
  go_wp2
  refine bodyPost_ret (results_cell_row rfl _ _ w.heap.size 60 #[.slice A n c, .int .i64 n, .bool true] (0, 0) _ rfl (heap_alloc_new _ _) Try.underlying60 rfl Try.size60) rfl ?_
  exact ⟨rfl, (Below.refl _ _).alloc (Nat.le_refl _) _⟩

theorem MpV.look {w : World} {b N : Nat} {g : Int → Option Value} (h : MpV w b N g) (k : Int) (hk : (Lit.int .i64 k).wf = true) (v : Value) (hv : (g k).getD zB = v) :
    (Instr.lookup 55 (.map (some b)) (.int .i64 k) false).run Try.prog w = .ok v w := by
  obtain ⟨D, n, _, ho, hs⟩ := h
  obtain ⟨v', ps, hrun, hv'⟩ := ho.lookup law3 Try.underlying55 (zero60 w) (zd := .held zB) (zp := []) rfl (Maps.keyOf_int_mk Try.underlying3 hk)
  have e := RB_inv hv'
  rw [hs] at e
  obtain rfl : v = v' := by
    rw [← hv]
    cases hgk : g k with
    | none => rw [hgk] at e; injection e with e
    | some u => rw [hgk] at e; injection e with e
  exact hrun
theorem cell_in_alloc {w : World} {p : Addr} {v : Value} (h : w.cell? p = some v) (o : Obj) : (w.alloc o).cell? p = some v :=
  (((Below.refl w.heap.size w).alloc (Nat.le_refl _) o).cell (World.block_lt_of_cell? w p h)).trans h
theorem MpV.alloc {w : World} {b N : Nat} {g : Int → Option Value} (h : MpV w b N g) (o : Obj) : MpV (w.alloc o) b N g := h.frm ((Frm.refl (fun _ => False) _).alloc _) (fun h => h)
theorem MpV.drewN {w : World} {b N : Nat} {g : Int → Option Value} (h : MpV w b N g) (n : Nat) : MpV (w.drewN n) b N g := h
theorem MpV.drew {w : World} {b N : Nat} {g : Int → Option Value} (h : MpV w b N g) : MpV w.drew b N g := h
set_option maxRecDepth 100000 in
theorem MpV.put {w : World} {b N : Nat} {g : Int → Option Value} (h : MpV w b N g) (hN : N < maxLen) (k : Int) (hk : (Lit.int .i64 k).wf = true) (u : Value) :
    ∃ w', (Instr.mapUpdate 55 (.map (some b)) (.int .i64 k) u).run Try.prog w = .ok () w' ∧ MpV w' b (N + 1) (upd g k (some u)) ∧ Frm (· = b) w w' := by
  obtain ⟨D, n, hn, ho, hs⟩ := h
  obtain ⟨w', hrun, r1, r2⟩ := ho.update law3 Try.underlying55 (Nat.lt_of_le_of_lt hn hN) (Maps.keyOf_int_mk Try.underlying3 hk) (val := u) (d := .held u) (ps := []) rfl
  exact ⟨w', hrun, ⟨_, n + 1, by omega, r1, hs.put (ho.tidy law3).isMap k hk u⟩, (Frm.of_grown r2).mono (fun k e => by injection e with e; exact e.symm)⟩
set_option maxRecDepth 100000 in
theorem MpV.del {w : World} {b N : Nat} {g : Int → Option Value} (h : MpV w b N g) (k : Int) (hk : (Lit.int .i64 k).wf = true) (ty : TypeId) :
    ∃ w', (Builtin.delete_ #[55, 3] ty #[.map (some b), .int .i64 k]).run Try.prog w = .ok (.tuple #[]) w' ∧ MpV w' b N (upd g k none) ∧ Frm (· = b) w w' := by
  obtain ⟨D, n, hn, ho, hs⟩ := h
  obtain ⟨w', hrun, r1, r2⟩ := ho.drop law3 Try.underlying55 (Maps.keyOf_int_mk Try.underlying3 hk) ty
  exact ⟨w', hrun, ⟨_, n, hn, r1, hs.del k⟩, Frm.of_turned r2⟩
theorem own_frm {S : Nat → Prop} {w w' : World} {base e size n : Nat} {v : Value} {xs : List Value} (h : w.ownsRow base e size v n xs) (k : Frm S w w') (hn : ∀ g, v.ownBlock = some g → ¬ S g) : w'.ownsRow base e size v n xs := by
  refine ⟨h.1, ?_⟩
  rcases h.2 with hn | ⟨g, cap, cur, rfl, hb, hgg, rest⟩
  · exact .inl hn
  · exact .inr ⟨g, cap, cur, rfl, hb, (k.block g (Array.getElem?_eq_some_iff.1 hgg).1 (hn g rfl)).trans hgg, rest⟩
theorem own_base {w : World} {base base' e size n : Nat} {v : Value} {xs : List Value} (h : w.ownsRow base e size v n xs) (hb : base' ≤ base) : w.ownsRow base' e size v n xs := by
  refine ⟨h.1, ?_⟩
  rcases h.2 with hn | ⟨g, cap, cur, rfl, hb', rest⟩
  · exact .inl hn
  · exact .inr ⟨g, cap, cur, rfl, by omega, rest⟩
end Go.Proofs.Ytfcagjnedaaadaa
