/- Which paths are picked, on plain lists. -/
namespace Go.Proofs.Ytnpapjocobgpnaa

/-- The paths that can be used, of the first k. -/
def usN (ms : List Int) (k : Nat) : List Int := ((List.range k).filter fun i => decide (0 ≤ ms.getD i 0)).map fun i : Nat => (i : Int)
theorem usN_zero (ms : List Int) : usN ms 0 = [] := rfl
theorem usN_yes (ms : List Int) (k : Nat) (h : 0 ≤ ms.getD k 0) : usN ms (k + 1) = usN ms k ++ [(k : Int)] := by
  have e : List.filter (fun i => decide (0 ≤ ms.getD i 0)) [k] = [k] := by rw [List.filter_cons_of_pos (by simpa using h)]; rfl
  rw [usN, List.range_succ, List.filter_append, e, List.map_append]
  rfl
theorem usN_no (ms : List Int) (k : Nat) (h : ¬ 0 ≤ ms.getD k 0) : usN ms (k + 1) = usN ms k := by
  have e : List.filter (fun i => decide (0 ≤ ms.getD i 0)) [k] = [] := by rw [List.filter_cons_of_neg (by simpa using h)]; rfl
  rw [usN, List.range_succ, List.filter_append, e, List.append_nil]
  rfl
theorem usN_length (ms : List Int) (k : Nat) : (usN ms k).length ≤ k := by
  unfold usN
  rw [List.length_map]
  exact Nat.le_trans (List.length_filter_le _ _) (by simp)
theorem usN_mem (ms : List Int) (k : Nat) (x : Int) : x ∈ usN ms k ↔ 0 ≤ x ∧ x < k ∧ 0 ≤ ms.getD x.toNat 0 := by
  simp only [usN, List.mem_map, List.mem_filter, List.mem_range, decide_eq_true_eq]
  constructor
  · rintro ⟨i, ⟨h1, h2⟩, rfl⟩
    exact ⟨by omega, by omega, by simpa using h2⟩
  · rintro ⟨h0, h1, h2⟩
    exact ⟨x.toNat, ⟨by omega, h2⟩, by omega⟩

/-- The place of the first path from a place on; at the list's length: there is none. -/
def idN (nx : Int) (l : List Int) : Nat := l.findIdx fun p => decide (nx ≤ p)
/-- The path that is next. -/
def rdN (nx : Int) (l : List Int) : Int := if idN nx l < l.length then l.getD (idN nx l) 0 else l.getD 0 0
/-- The quickest of the first k paths, from one on. -/
def bsN (ms : List Int) (l : List Int) (k : Nat) : Int := (l.take k).foldl (fun b p => if ms.getD p.toNat 0 < ms.getD b.toNat 0 then p else b) (l.getD 0 0)
theorem bsN_zero (ms l : List Int) : bsN ms l 0 = l.getD 0 0 := by simp [bsN]
theorem bsN_succ (ms l : List Int) (k : Nat) (h : k < l.length) : bsN ms l (k + 1) = if ms.getD (l.getD k 0).toNat 0 < ms.getD (bsN ms l k).toNat 0 then l.getD k 0 else bsN ms l k := by
  have e : l.take (k + 1) = l.take k ++ [l.getD k 0] := by
    rw [List.take_succ_eq_append_getElem h, List.getD_eq_getElem?_getD, List.getElem?_eq_getElem h]
    rfl
  unfold bsN
  rw [e, List.foldl_append]
  rfl
theorem bsN_mem (ms l : List Int) (h : 0 < l.length) : ∀ k, k ≤ l.length → bsN ms l k ∈ l
  | 0, _ => by
    rw [bsN_zero, List.getD_eq_getElem?_getD, List.getElem?_eq_getElem h]
    exact List.getElem_mem _
  | k + 1, hk => by
    rw [bsN_succ ms l k hk]
    split
    · rw [List.getD_eq_getElem?_getD, List.getElem?_eq_getElem hk]
      exact List.getElem_mem _
    · exact bsN_mem ms l h k (by omega)

/-- What Pick answers, and where it goes on. -/
def pkN (kind nx : Int) (ms : List Int) : List Int :=
  let l := usN ms ms.length
  if l = [] ∨ kind = 3 then l else if kind = 2 then [rdN nx l] else [bsN ms l l.length]
def nxN (kind nx : Int) (ms : List Int) : Int :=
  let l := usN ms ms.length
  if l = [] ∨ kind = 3 then nx else if kind = 2 then rdN nx l + 1 else nx
theorem rdN_mem (nx : Int) (l : List Int) (h : 0 < l.length) : rdN nx l ∈ l := by
  unfold rdN
  split
  · rename_i h1
    rw [List.getD_eq_getElem?_getD, List.getElem?_eq_getElem h1]
    exact List.getElem_mem _
  · rw [List.getD_eq_getElem?_getD, List.getElem?_eq_getElem h]
    exact List.getElem_mem _
end Go.Proofs.Ytnpapjocobgpnaa
