/- make of slices, for the walks of this seat. -/
import Derived.Test.YtoplcndiejpipaaHS
namespace Go.Proofs.Ytoplcndiejpipaa
open Go.RowKit
section
variable {P : Program}
/-- make([]T, m), T of one cell. -/
theorem make_eq (t e : TypeId) (z : Value) (bytes : Nat) (ht : P.underlying t = some (.slice e)) (hinfo : (P.info? e).map (fun i => (i.zero, i.size, i.bytes)) = some (some z, 1, bytes)) (hz : z.cells = #[z])
    (m : Nat) (hm : bytes * m ≤ 281474976710656) (hm2 : m ≤ 281474976710656) (W : World) :
    (Instr.makeSlice t (.int .i64 (m : Int)) (.int .i64 (m : Int))).run P W = .ok (.slice (some ⟨W.heap.size, 0, none⟩) m m) (W.alloc (.cells (madeCells #[z] m) e)) := by
  obtain ⟨i0, hi, hzz⟩ := Option.map_eq_some_iff.1 hinfo
  simp only [Prod.mk.injEq] at hzz
  obtain ⟨hz0, hz1, hz2⟩ := hzz
  have hb' : (i0.bytes : Int) * (m : Int) ≤ 281474976710656 := by
    rw [hz2]
    have h : ((bytes * m : Nat) : Int) ≤ 281474976710656 := by omega
    rwa [Int.natCast_mul] at h
  have hr := run_make (P := P) W t e i0 z ht hi hz0 .i64 .i64 m m (by omega) (Int.le_refl _) hb' (by omega)
  simp only [Int.toNat_natCast, hz1, Nat.mul_one, hz] at hr
  exact hr
theorem make_own (W : World) (base : Nat) (e : TypeId) (z : Value) (m : Nat) (hb : base ≤ W.heap.size) (hm : m ≤ maxLen) :
    (W.alloc (.cells (madeCells #[z] m) e)).ownsRow base e 1 (.slice (some ⟨W.heap.size, 0, none⟩) m m) m (List.replicate m z) := by
  have h := World.ownsRow_lit (base := base) (e := e) (size := 1) W (madeCells #[z] m) m hb hm (by simp [size_madeCells])
  rwa [toList_madeCells_one] at h

end
end Go.Proofs.Ytoplcndiejpipaa
