/- Plain laws of a store with a fuse. -/
import Derived.Test.YtfcagjnedaaadaaP2
namespace Go.Proofs.Ytfcagjnedaaadaa
open Go.RowKit

def fuF (xb : List Int) (i : Nat) : Option Bk := if i = 0 then none else some ((List.replicate i xb).flatten, 0, false)
def fuS (xb : List Int) (i : Nat) (left : Int) (dead : Bool) : St := ⟨one 2 (fuF xb i), dead, true, left⟩
theorem fu_bk (xb : List Int) (i : Nat) : bkAt (one 2 (fuF xb i)) 2 = ((List.replicate i xb).flatten, 0, false) := by
  unfold fuF
  split
  · rename_i h; subst h; rw [bkAt_one_none]; rfl
  · rw [bkAt_one]
theorem fu_app0 (xb ys : List Int) (i : Nat) (l : Int) : appS (fuS xb i l false) 0 ys = (1, fuS xb i l false) := by
  simp [appS, mayS, fuS]
theorem fu_drop7 (xb : List Int) (i : Nat) (l : Int) : dropS (fuS xb i l false) 7 = (3, fuS xb i l false) := by
  simp [dropS, thereS, mayS, fuS, one_other]
theorem fu_app (xb : List Int) (i : Nat) (l r : Int) (hl : 0 < l) (hr : r = l - 1) : appS (fuS xb i l false) 2 xb = (0, fuS xb (i + 1) r false) := by
  have h1 : mayS (fuS xb i l false) 2 = 0 := by simp [mayS, fuS]
  unfold appS
  rw [if_pos h1]
  unfold runS
  rw [if_neg (by show ¬ (true = true ∧ l = 0); omega)]
  show (0, (⟨upd (one 2 (fuF xb i)) 2 (some ((bkAt (one 2 (fuF xb i)) 2).1 ++ xb, (bkAt (one 2 (fuF xb i)) 2).2.1, (bkAt (one 2 (fuF xb i)) 2).2.2)), false, true, mx 0 (l - 1)⟩ : St)) = _
  rw [fu_bk, upd_one]
  have h2 : mx 0 (l - 1) = r := by unfold mx; split <;> omega
  rw [h2]
  have h3 : fuF xb (i + 1) = some ((List.replicate i xb).flatten ++ xb, 0, false) := by
    unfold fuF
    rw [if_neg (by omega), List.replicate_succ']
    simp
  unfold fuS
  rw [h3]
theorem fu_blow (xb : List Int) (i : Nat) : appS (fuS xb i 0 false) 2 xb = (6, fuS xb i 0 true) := by
  simp [appS, mayS, runS, fuS]
theorem dead_app (s : St) (n : Int) (ys : List Int) (h : s.dead = true) : appS s n ys = (6, s) := by simp [appS, mayS, h]
theorem dead_there (s : St) (n : Int) (h : s.dead = true) : thereS s n = 6 := by simp [thereS, mayS, h]
theorem dead_sync (s : St) (n : Int) (h : s.dead = true) : syncS s n = (6, s) := by simp [syncS, dead_there s n h]
theorem dead_drop (s : St) (n : Int) (h : s.dead = true) : dropS s n = (6, s) := by simp [dropS, dead_there s n h]
theorem dead_cut (s : St) (n k : Int) (h : s.dead = true) : cutS s n k = (6, s) := by simp [cutS, dead_there s n h]
theorem fu_len (xb : List Int) (i m : Nat) (h : xb.length = m) : ((List.replicate i xb).flatten).length = i * m := by
  induction i with
  | zero => simp
  | succ i ih => rw [List.replicate_succ, List.flatten_cons, List.length_append, ih, h, Nat.succ_mul]; omega
theorem fu_crash (xb : List Int) (i m : Nat) (h : xb.length = m) (hm : 0 < m) (hb : i * m ≤ 1000) : ∃ Y, crashS (fuS xb i 0 true) 1000 = plainS (one 2 Y) ∧ Y.isSome = decide (0 < i) ∧ (bkAt (one 2 Y) 2).1.length = i * m := by
  refine ⟨(fuF xb i).bind (crash1 1000), crash_one 2 (fuF xb i) 1000, ?_, ?_⟩
  · unfold fuF
    split
    · rename_i h; subst h; rfl
    · have hl := fu_len xb i m h
      have h0 : 0 < i * m := Nat.mul_pos (by omega) hm
      have hc : ¬ crn 1000 ((List.replicate i xb).flatten, 0, false) = 0 := by
        unfold crn mn mx
        simp only [hl]
        split <;> split <;> omega
      have hi : 0 < i := by omega
      simp [crash1, hc, hi]
  · unfold fuF
    split
    · rename_i h; subst h; simp
    · have hl := fu_len xb i m h
      have h0 : 0 < i * m := Nat.mul_pos (by omega) hm
      rw [Option.bind_some, crash_bytes, List.length_take, hl]
      have hc : crn 1000 ((List.replicate i xb).flatten, 0, false) = i * m := by
        unfold crn mn mx
        simp only [hl]
        split <;> split <;> omega
      rw [hc, Nat.min_self]
theorem app_one_any (n : Int) (Y : Option Bk) (ys : List Int) (hn : 1 ≤ n) : appS (plainS (one n Y)) n ys = (0, plainS (one n (some ((bkAt (one n Y) n).1 ++ ys, (bkAt (one n Y) n).2.1, (bkAt (one n Y) n).2.2)))) := by
  rw [appS_plain _ n ys hn, upd_one]
end Go.Proofs.Ytfcagjnedaaadaa
