/- More small laws for the walks of chapter 2's laws. -/
import Derived.Test.YtgcolhcajmbehaaAid
import Derived.Test.YtgcolhcajmbehaaLin2
import Derived.Test.YtgcolhcajmbehaaHM
namespace Go.Proofs.Ytgcolhcajmbehaa
open Go.RowKit
theorem run_min3 (ats : Array TypeId) (ty : TypeId) (a b c : Int) : Builtin.min_ ats ty #[.int .i64 a, .int .i64 b, .int .i64 c] = pure (.int .i64 (if c < (if b < a then b else a) then c else (if b < a then b else a))) := by
  simp only [Builtin.min_, List.foldlM_cons, List.foldlM_nil, Builtin.min2]
  rfl
theorem zeros_u8s (m : Nat) : List.replicate m (Value.int .u8 0) = u8s (List.replicate m 0) := by simp [u8s]
theorem own_drew {w : World} {base : Nat} {e : TypeId} {size n : Nat} {v : Value} {xs : List Value} (h : w.ownsRow base e size v n xs) : w.drew.ownsRow base e size v n xs := h
theorem getD_lt {l : List Nat} (h : ∀ x ∈ l, x < 256) (k : Nat) : l.getD k 0 < 256 := by
  rw [List.getD_eq_getElem?_getD]
  rcases hk : l[k]? with _ | x
  · simp
  · simpa using h x (List.mem_of_getElem? hk)
theorem own_cell {w : World} {base : Nat} {e : TypeId} {g n cap k : Nat} {xs : List Value} (h : w.ownsRow base e 1 (.slice (some ⟨g, 0, none⟩) n cap) n xs) (hk : k < n) : ∃ v, w.cell? ⟨g, k, none⟩ = some v := by
  rw [h.cellAt k (by omega)]
  have := own_len h
  exact ⟨_, List.getElem?_eq_getElem (by omega)⟩
theorem u8s_set (l : List Nat) (k z : Nat) : (u8s l).set k (.int .u8 z) = u8s (l.set k z) := by simp [u8s, List.map_set]
theorem of_lt {t : List Nat} (ht : ∀ x ∈ t, x < 4294967296) (b : List Nat) : ofN t b < 4294967296 := by
  unfold ofN
  split
  · omega
  · exact xor_lt32 (by omega) (upN_lt ht b (by omega))
theorem tab_cell {i : Nat} (h : i < 256) : (u32s (tabN 256))[i]? = some (.int .u32 (entN i : Nat)) := by
  unfold tabN
  simp [u32s, h]
end Go.Proofs.Ytgcolhcajmbehaa
