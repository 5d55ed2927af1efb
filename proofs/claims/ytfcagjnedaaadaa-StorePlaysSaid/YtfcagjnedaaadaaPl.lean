/- Plain laws of the store's state. -/
import Derived.Test.YtfcagjnedaaadaaSt3
import Derived.Test.YtfcagjnedaaadaaCr
import Derived.Test.YtfcagjnedaaadaaHp
namespace Go.Proofs.Ytfcagjnedaaadaa
open Go.RowKit

theorem Sto.lt {S : Nat → Prop} {w : World} {g b N L : Nat} {s : St} (h : Sto w g b S N L s) : Sto w g b (fun j => S j ∧ j < w.heap.size) N L s := by
  obtain ⟨gv, h1, h2⟩ := h.hold
  exact ⟨h.blk, h.ne, h.l0, h.l1, ⟨gv, h1, h2.lt⟩, fun j hj => h.av j hj.1⟩

/-- A store without a fuse. -/
def plainS (f : Int → Option Bk) : St := ⟨f, false, false, 0⟩
theorem may_plain (f : Int → Option Bk) (n : Int) (hn : 1 ≤ n) : mayS (plainS f) n = 0 := by
  have : ¬ n < 1 := by omega
  simp [mayS, plainS, this]
theorem there_plain (f : Int → Option Bk) (n : Int) (hn : 1 ≤ n) (h : (f n).isSome = true) : thereS (plainS f) n = 0 := by
  unfold thereS
  rw [if_pos (may_plain f n hn)]
  exact if_pos h
theorem run_plain (f f' : Int → Option Bk) : runS (plainS f) f' = (0, plainS f') := by simp [runS, plainS, mx]
theorem appS_plain (f : Int → Option Bk) (n : Int) (ys : List Int) (hn : 1 ≤ n) : appS (plainS f) n ys = (0, plainS (upd f n (some ((bkAt f n).1 ++ ys, (bkAt f n).2.1, (bkAt f n).2.2)))) := by
  unfold appS
  rw [if_pos (may_plain f n hn), run_plain]
  rfl
theorem syncS_plain (f : Int → Option Bk) (n : Int) (hn : 1 ≤ n) (h : (f n).isSome = true) : syncS (plainS f) n = (0, plainS (upd f n (some ((bkAt f n).1, ((bkAt f n).1.length : Int), true)))) := by
  unfold syncS
  rw [if_pos (there_plain f n hn h), run_plain]
  rfl
theorem dropS_plain (f : Int → Option Bk) (n : Int) (hn : 1 ≤ n) (h : (f n).isSome = true) : dropS (plainS f) n = (0, plainS (upd f n none)) := by
  unfold dropS
  rw [if_pos (there_plain f n hn h), run_plain]
  rfl
theorem cutS_plain (f : Int → Option Bk) (n k : Int) (hn : 1 ≤ n) (h : (f n).isSome = true) (k0 : 0 ≤ k) (k1 : k ≤ ((bkAt f n).1.length : Int)) : cutS (plainS f) n k = (0, plainS (upd f n (some ((bkAt f n).1.take k.toNat, k, true)))) := by
  unfold cutS
  rw [if_pos (there_plain f n hn h), if_neg (by show ¬ (k < 0 ∨ ((bkAt f n).1.length : Int) < k); omega), run_plain]
  rfl
theorem cutS_arg (f : Int → Option Bk) (n k : Int) (hn : 1 ≤ n) (h : (f n).isSome = true) (hk : k < 0 ∨ ((bkAt f n).1.length : Int) < k) : cutS (plainS f) n k = (1, plainS f) := by
  unfold cutS
  rw [if_pos (there_plain f n hn h)]
  exact if_pos hk
theorem crashS_plain (f : Int → Option Bk) (keep : Int) : crashS (plainS f) keep = plainS (fun k => (f k).bind (crash1 keep)) := rfl
@[simp] theorem bkAt_upd (f : Int → Option Bk) (n : Int) (x : Bk) : bkAt (upd f n (some x)) n = x := by simp [bkAt]
@[simp] theorem bkAt_none (n : Int) : bkAt (fun _ => none) n = ([], 0, false) := rfl
/-- One block alone. -/
def one (n : Int) (x : Option Bk) : Int → Option Bk := upd (fun _ => none) n x
theorem upd_one (n : Int) (x y : Option Bk) : upd (one n x) n y = one n y := by
  funext k
  unfold one upd
  split <;> rfl
theorem one_none (n : Int) : one n none = fun _ => none := by
  funext k
  unfold one upd
  split <;> rfl
@[simp] theorem one_same (n : Int) (x : Option Bk) : one n x n = x := by simp [one]
theorem one_other (n k : Int) (x : Option Bk) (h : k ≠ n) : one n x k = none := by simp [one, upd, h]
@[simp] theorem bkAt_one (n : Int) (x : Bk) : bkAt (one n (some x)) n = x := by simp [bkAt]
@[simp] theorem bkAt_one_none (n : Int) : bkAt (one n none) n = ([], 0, false) := by simp [bkAt]
theorem app_new (n : Int) (ys : List Int) (hn : 1 ≤ n) : appS (plainS fun _ => none) n ys = (0, plainS (one n (some (ys, 0, false)))) := appS_plain _ n ys hn
theorem app_one (n : Int) (l ys : List Int) (sy : Int) (fm : Bool) (hn : 1 ≤ n) : appS (plainS (one n (some (l, sy, fm)))) n ys = (0, plainS (one n (some (l ++ ys, sy, fm)))) := by
  rw [appS_plain _ n ys hn, upd_one, bkAt_one]
theorem sync_one (n : Int) (l : List Int) (sy : Int) (fm : Bool) (hn : 1 ≤ n) : syncS (plainS (one n (some (l, sy, fm)))) n = (0, plainS (one n (some (l, (l.length : Int), true)))) := by
  rw [syncS_plain _ n hn (by simp), upd_one, bkAt_one]
theorem drop_one (n : Int) (x : Bk) (hn : 1 ≤ n) : dropS (plainS (one n (some x))) n = (0, plainS (fun _ => none)) := by
  rw [dropS_plain _ n hn (by simp), upd_one, one_none]
theorem cut_one (n : Int) (l : List Int) (sy : Int) (fm : Bool) (k : Int) (hn : 1 ≤ n) (k0 : 0 ≤ k) (k1 : k ≤ (l.length : Int)) : cutS (plainS (one n (some (l, sy, fm)))) n k = (0, plainS (one n (some (l.take k.toNat, k, true)))) := by
  rw [cutS_plain _ n k hn (by simp) k0 (by rw [bkAt_one]; exact k1), upd_one, bkAt_one]
theorem crash_one (n : Int) (x : Option Bk) (keep : Int) : crashS (plainS (one n x)) keep = plainS (one n (x.bind (crash1 keep))) := by
  rw [crashS_plain]
  congr 1
  funext k
  unfold one upd
  split <;> rfl
/-- What a crash leaves a crash leaves again. -/
theorem crash_again (keep : Int) (x : Bk) (h0 : 0 ≤ x.2.1) (h1 : x.2.1 ≤ x.1.length) : (crash1 keep x).bind (crash1 0) = crash1 keep x := by
  obtain ⟨_, hle⟩ := crn_eq keep x h0 h1
  unfold crash1
  split
  · rfl
  · generalize crn keep x = K at *
    have hlen : (x.1.take K).length = K := by rw [List.length_take]; omega
    have hc : crn 0 (x.1.take K, (K : Int), true) = K := by
      unfold crn mn mx
      simp only [hlen]
      simp
    simp [hc, List.take_take]
theorem crash_bytes (n : Int) (keep : Int) (x : Bk) : (bkAt (one n (crash1 keep x)) n).1 = x.1.take (crn keep x) := by
  unfold crash1
  split
  · rename_i h
    rw [bkAt_one_none, h.1]
    rfl
  · rw [bkAt_one]
end Go.Proofs.Ytfcagjnedaaadaa
