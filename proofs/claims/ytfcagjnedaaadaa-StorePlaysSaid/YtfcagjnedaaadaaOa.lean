/- A row of acts that came in, read element by element. -/
import Derived.Test.YtfcagjnedaaadaaP3
import Derived.ProofKit
import Derived.OpenShut
import Derived.Deep.Slices
import Derived.ChangeSlices
namespace Go.Proofs.Ytfcagjnedaaadaa
open Go.RowKit Go.Deep Go.ChangeShapes Go.WideShapes Go.ChangeAt

def ActAt (w : World) (a : Addr) (d b n : Int) (A : Option Addr) (m c : Nat) (l : List Int) : Prop :=
  w.cell? (a.add 0) = some (.int .i64 d) ∧ w.cell? (a.add 1) = some (.int .i64 b) ∧ w.cell? (a.add 2) = some (.int .i64 n) ∧ w.cell? (a.add 3) = some (.slice A m c) ∧
    (Lit.int .i64 d).wf = true ∧ (Lit.int .i64 b).wf = true ∧ (Lit.int .i64 n).wf = true ∧ Sl w 1 (.slice A m c) m (u8s l)
def IsActs (w : World) (a0 : Option Addr) (len cap : Nat) : Prop :=
  (a0 = none ∧ len = 0 ∧ cap = 0) ∨ ∃ a, a0 = some a ∧ len ≤ cap ∧ cap ≤ maxLen ∧ ∀ i, i < len → ∃ d b n A m c l, ActAt w (a.add (i * 4)) d b n A m c l

theorem c46 : Try.prog.cellsOf 46 = 4 := by kernel_rfl
theorem c3 : Try.prog.cellsOf 3 = 1 := by kernel_rfl
theorem c23 : Try.prog.cellsOf 23 = 1 := by kernel_rfl
set_option maxRecDepth 100000 in
theorem open_acts {H : Type} {enc : TypeId × Value → H} {w : World} {fuel : Nat} {a0 : Option Addr} {len cap : Nat} {x : DataW H × List MemPlace} (h : DataW.trod enc Try.prog w 0 (fun _ => true) true fuel 40 [.slice a0 len cap] = some x) : IsActs w a0 len cap := by
  rcases open_slice Try.underlying40 h with ⟨e, _⟩ | ⟨a, l, c, m, n, D, Pl, e, _, hl, hm, hmm, _, hx⟩
  · simp at e
    obtain ⟨rfl, rfl, rfl⟩ := e
    exact .inl ⟨rfl, rfl, rfl⟩
  · simp at e
    obtain ⟨rfl, rfl, rfl⟩ := e
    refine .inr ⟨a, rfl, hl, hm, fun i hi => ?_⟩
    obtain ⟨cs, h1, h2⟩ := hx i (by rw [hmm]; simp; omega)
    rw [c46] at h1
    obtain ⟨_, hlen, hcell⟩ := World.cells?_some h1
    obtain ⟨xs, k, _, _, _, hxl, hf⟩ := DataW.trod_struct Try.underlying46 h2
    match cs, hlen with
    | [v0, v1, v2, v3], _ =>
      match xs, hxl with
      | [y0, y1, y2, y3], _ =>
        have g0 := hf 0 _ rfl
        have g1 := hf 1 _ rfl
        have g2 := hf 2 _ rfl
        have g3 := hf 3 _ rfl
        simp [c3, c23] at g0 g1 g2 g3
        have e0 := hcell 0 (by omega)
        have e1 := hcell 1 (by omega)
        have e2 := hcell 2 (by omega)
        have e3 := hcell 3 (by omega)
        simp only [List.getElem?_cons_zero, List.getElem?_cons_succ] at e0 e1 e2 e3
        obtain ⟨d, hd, _, wd⟩ := DataW.trod_int Try.underlying3 g0
        obtain ⟨b, hb, _, wb⟩ := DataW.trod_int Try.underlying3 g1
        obtain ⟨nn, hn, _, wn⟩ := DataW.trod_int Try.underlying3 g2
        injection hd with hd _
        injection hb with hb _
        injection hn with hn _
        subst hd
        subst hb
        subst hn
        rcases open_ints Try.underlying23 Try.underlying5 (by kernel_rfl) g3 with ⟨hcs, _⟩ | ⟨z, l2, c2, zs, hcs, _, hl2, hm2, hz, _, hcl, hwz⟩
        · injection hcs with hcs _
          subst hcs
          exact ⟨d, b, nn, none, 0, 0, [], e0, e1, e2, e3, wd, wb, wn, Sl.nil w 1⟩
        · injection hcs with hcs _
          subst hcs
          obtain ⟨l, hl', _⟩ := bytes_of_row (w := w) (a := some z) (len := l2) (cap := c2) (zs := zs) (.inr ⟨z, rfl, hl2, hm2, by simpa using hz, hcl, hwz⟩)
          exact ⟨d, b, nn, some z, l2, c2, l, e0, e1, e2, e3, wd, wb, wn, hl'⟩

theorem ActAt.below {B : Nat} {w w' : World} {a : Addr} {d b n : Int} {A : Option Addr} {m c : Nat} {l : List Int} (h : ActAt w a d b n A m c l) (hB : B = w.heap.size) (k : Below B w w') : ActAt w' a d b n A m c l := by
  subst hB
  obtain ⟨h0, h1, h2, h3, h4, h5, h6, h7⟩ := h
  exact ⟨(k.cell (World.block_lt_of_cell? w _ h0)).trans h0, (k.cell (World.block_lt_of_cell? w _ h1)).trans h1, (k.cell (World.block_lt_of_cell? w _ h2)).trans h2, (k.cell (World.block_lt_of_cell? w _ h3)).trans h3, h4, h5, h6, h7.below k⟩
end Go.Proofs.Ytfcagjnedaaadaa
