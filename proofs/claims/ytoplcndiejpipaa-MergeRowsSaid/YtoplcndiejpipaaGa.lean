/- Boxes of a few things. -/
import Derived.Test.YtoplcndiejpipaaFk
namespace Go.Proofs.Ytoplcndiejpipaa
open Go.RowKit
set_option linter.unusedVariables false
set_option linter.unusedSimpArgs false

theorem Sl.boxn (w : World) (e : TypeId) (k n : Nat) (cs : List Value) (h : Nat) (hh : h = w.heap.size) (hk : cs.length = n * k) (hm : n ≤ maxLen) (h1 : ∀ u ∈ cs, u.oneCell' = true) : Sl (w.alloc (.cells cs.toArray e)) k (.slice (some ⟨h, 0, none⟩) n n) n cs := by
  subst hh
  refine ⟨_, n, rfl, Nat.le_refl _, hm, by omega, h1, fun _ => ⟨_, rfl, fun j u hj => ?_⟩⟩
  have ha : (⟨w.heap.size, 0, none⟩ : Addr).add j = ⟨w.heap.size, j, none⟩ := by unfold Addr.add; split <;> simp_all
  rw [ha, (Blk.new w cs.toArray e).cell j]
  simpa using hj
abbrev nilV : Value := .slice none 0 0
def bare2 : List Ev → List (Value × Value)
  | [] => []
  | _ :: l => (nilV, nilV) :: bare2 l
theorem bare2_length : ∀ l, (bare2 l).length = l.length
  | [] => rfl
  | _ :: l => by simp [bare2, bare2_length l]
theorem bare2_mem : ∀ l, ∀ x ∈ bare2 l, x = (nilV, nilV)
  | [], x, h => by simp [bare2] at h
  | _ :: l, x, h => by
    simp only [bare2, List.mem_cons] at h
    rcases h with h | h
    · exact h
    · exact bare2_mem l x h
def Bare (es : List Ev) : Prop := ∀ e ∈ es, e.data = [] ∧ e.pk.data = []
theorem erow_box (S : Nat → Prop) (w : World) (es : List Ev) (hes : Bare es) (hm : es.length ≤ 1000) (h : Nat) (hh : h = w.heap.size) : ERow S (w.alloc (.cells (rowsG ecells es (bare2 es)).toArray 27)) (.slice (some ⟨h, 0, none⟩) es.length es.length) es := by
  have hx : ∀ (w : World) (i : Nat) (e : Ev) (x : Value × Value), es[i]? = some e → (bare2 es)[i]? = some x → EV w S e x := by
    intro w i e x h1 h2
    have h3 := hes e (List.mem_of_getElem? h1)
    rw [bare2_mem _ _ (List.mem_of_getElem? h2)]
    exact EV.bare S w e h3.1 h3.2
  refine ⟨bare2 es, bare2_length es, ?_, fun i a b ha hb => hx _ i a b ha hb⟩
  exact Sl.boxn w 27 12 es.length _ h hh (rowsG_length ecells_len _ _ (bare2_length es)) (Nat.le_trans hm (by simp [maxLen])) (rowsG_all _ _ _ (fun i a b ha hb => EV.one (hx w i a b ha hb)))
def IRow (w : World) (v : Value) (l : List Int) : Prop := Sl w 1 v l.length (l.map (.int .i64 ·))
theorem IRow.below {w w' : World} {v : Value} {l : List Int} (h : IRow w v l) (k : Below w.heap.size w w') : IRow w' v l := Sl.below h k
theorem irow_nil (w : World) : IRow w nilV [] := Sl.nil w 1
theorem irow_box (w : World) (l : List Int) (hm : l.length ≤ 1000) (h : Nat) (hh : h = w.heap.size) : IRow (w.alloc (.cells (l.map (.int .i64 ·)).toArray 3)) (.slice (some ⟨h, 0, none⟩) l.length l.length) l :=
  Sl.boxn w 3 1 l.length _ h hh (by simp) (Nat.le_trans hm (by simp [maxLen])) (fun u hu => by obtain ⟨x, _, rfl⟩ := List.mem_map.1 hu; rfl)
theorem unalloc {w w' : World} {o : Obj} (h : Below (w.alloc o).heap.size (w.alloc o) w') : Below w.heap.size w w' :=
  ((Below.refl w.heap.size w).alloc (Nat.le_refl _) o).trans (h.mono (by simp))
theorem _root_.Go.RowKit.Below.on {B : Nat} {a w w' : World} (h : Below B a w) (hB : B ≤ a.heap.size) (k : Below w.heap.size w w') : Below B a w' := h.trans (k.mono (Nat.le_trans hB h.size))
end Go.Proofs.Ytoplcndiejpipaa
