/- Parts of the walk: Er, Pa, Ua. -/
import Derived.Test.YtdneakejlbabeaaGreatM00
import Derived.Test.YtdneakejlbabeaaGreatM31
import Derived.Test.YtdneakejlbabeaaGreatM22
import Derived.Test.YtdneakejlbabeaaGreatM21
import Derived.Test.YtdneakejlbabeaaGreatM23
import Derived.Test.YtdneakejlbabeaaGreatM29
import Derived.Test.YtdneakejlbabeaaGreatM30
import Derived.Test.YtdneakejlbabeaaGreatM09
namespace Go.Proofs.YtdneakejlbabeaaGreat
open Go.RowKit
set_option linter.unusedVariables false
set_option linter.unusedSimpArgs false
section
attribute [local go_sem] run_max2' run_min2' run_max_ run_min_
theorem openL_some {l x : List Int} (h : openL l = some x) : l = sealL x := by
 unfold openL at h
 split at h
 ·cases h
 ·split at h
  ·rename_i h2
   injection h with h
   rw [← h]
   exact h2.symm
  ·cases h
theorem BV.alloc {w : World} {S : Nat → Prop} {v : Value} {l : List Int} (h : BV w S v l) (o : Obj) : BV (w.alloc o) S v l := h.below (ba)
def UnpR (w : World) (l : List Int) (e : Ending) (w' : World) : Prop :=
 ∃ (p : Pk) (vd : Value) (q : Bool), e = .returned (.tuple #[pagg p vd, .bool q]) ∧ BV w' (fun j => w.heap.size ≤ j) vd p.data ∧ p.data.length ≤ l.length ∧ (q = true → RightP p p.data.length ∧ l = sealL (plainL p)) ∧ Below w.heap.size w w'
theorem unp_end {w W : World} {l : List Int} {gr : Nat} (hb : Below w.heap.size w W) (hg : w.heap.size ≤ gr) (p : Pk) (vd : Value) (q : Bool) (hd : BV W (fun j => w.heap.size ≤ j ∧ j ≠ gr) vd p.data) (hdl : p.data.length ≤ l.length) (hq : q = true → RightP p p.data.length ∧ l = sealL (plainL p)) (u0 u1 u2 u3 u4 u5 u6 u7 u8 : Value) :
  UnpR w l (.returned (.tuple #[pagg p vd, .bool q])) (fill9 W gr u0 u1 u2 u3 u4 u5 u6 u7 u8) := by
 have f := fill9_frm W gr u0 u1 u2 u3 u4 u5 u6 u7 u8
 exact ⟨p, vd, q, rfl, (hd.frm f (fun j hj => hj.2)).mono (fun j hj _ => hj.1), hdl, hq, Frm.below hb f hb.size (fun i hi => hi ▸ hg)⟩
set_option maxHeartbeats 8000000 in
set_option maxRecDepth 100000 in
theorem unpack_any (w : World) (S : Nat → Prop) (v : Value) (l : List Int) (h : BV w S v l) (hl : l.length ≤ 1000000) :
  Calls Tryz.prog 46 #[v] w fun e w' => UnpR w l e w' := by
 have H := hid h
 clear h
 go_enter Tryz.func46, Tryz.ntmps46
 go_wp2_with fail
 obtain ⟨w0, hw0⟩ := lx (w.alloc (.cells #[.int .i64 0, .int .i64 0, .int .i64 0, .int .i64 0, .int .i64 0, .slice none 0 0, .bool false, .int .i64 0, .int .i64 0] 27))
 obtain ⟨gr, hgr⟩ := lx (w.heap.size)
 have BR : Hid (Blk w0 gr #[.int .i64 0, .int .i64 0, .int .i64 0, .int .i64 0, .int .i64 0, .slice none 0 0, .bool false, .int .i64 0, .int .i64 0] 27) := hid (by rw [hw0, hgr]; exact Blk.new _ _ _)
 have BW : Hid (Below w.heap.size w w0) := hid (by rw [hw0]; exact ba)
 have sgr : w.heap.size ≤ gr := by omega
 have grl0 : gr < w0.heap.size := BR.out.lt
 rw [← hw0, ← hgr]
 clear hw0 hgr
 refine (open_any w0 S v l (H.out.below BW.out) hl).mono ?_
 rintro e w1 ⟨v1, rfl, ho, hb⟩
 have B1 := hid (bO BW.out hb)
 have R1 := hid (BR.out.below hb)
 have s1 : w0.heap.size ≤ w1.heap.size := hb.size
 rcases hx : openL l with _ | x
 ·rw [hx] at ho
  rw [show (none : Option (List Int)).isSome = false from rfl]
  clear ho hb
  have zc0 := R1.out.cell 0
  have zc1 := R1.out.cell 1
  have zc2 := R1.out.cell 2
  have zc3 := R1.out.cell 3
  have zc4 := R1.out.cell 4
  have zc5 := R1.out.cell 5
  have zc6 := R1.out.cell 6
  have zc7 := R1.out.cell 7
  have zc8 := R1.out.cell 8
  have zf0 := R1.out.free 0
  have zf1 := R1.out.free 1
  have zf2 := R1.out.free 2
  have zf3 := R1.out.free 3
  have zf4 := R1.out.free 4
  have zf5 := R1.out.free 5
  have zf6 := R1.out.free 6
  have zf7 := R1.out.free 7
  have zf8 := R1.out.free 8
  simp only [gA, gZ, gC] at zc0 zc1 zc2 zc3 zc4 zc5 zc6 zc7 zc8
  go_wp2_with fail
  refine bodyPost_ret (results_crt rfl _ (fill9 w1 gr (.int .i64 0) (.int .i64 0) (.int .i64 0) (.int .i64 0) (.int .i64 0) (.slice none 0 0) (.bool false) (.int .i64 0) (.int .i64 0)) gr 27 _ (0, 0) _ rfl (fill9_blk R1.out (.int .i64 0) (.int .i64 0) (.int .i64 0) (.int .i64 0) (.int .i64 0) (.slice none 0 0) (.bool false) (.int .i64 0) (.int .i64 0)) Tryz.underlying27 rfl Tryz.size27) rfl ?_
  exact unp_end B1.out sgr ⟨0, 0, 0, 0, 0, [], false, 0, 0⟩ (.slice none 0 0) false (BV.nil _ _) (Nat.zero_le _) (fun h => by cases h) (.int .i64 0) (.int .i64 0) (.int .i64 0) (.int .i64 0) (.int .i64 0) (.slice none 0 0) (.bool false) (.int .i64 0) (.int .i64 0)
 ·rw [hx] at ho
  rw [show (some x : Option (List Int)).isSome = true from rfl]
  have hlx := openL_some hx
  have hxl : x.length ≤ l.length := by rw [hlx, sealL_len]; omega
  have HX := hid hlx
  have O1 : Hid (BO w0.heap.size w1 v1 x) := hid ho
  obtain ⟨A1, c1, rfl⟩ := own_slice' ho.1
  simp only [Option.getD_some]
  clear ho hb hx hlx
  go_wp2_with fail
  obtain ⟨w2, hw2⟩ := lx (w1.alloc (.cells #[.slice A1 x.length c1, .int .i64 0, .bool false] 145))
  obtain ⟨g, hg⟩ := lx (w1.heap.size)
  have B2 : Below w1.heap.size w1 w2 := by rw [hw2]; exact ba
  have RD : Hid (RdC w2 g (.slice A1 x.length c1) 0 false) := hid (by rw [hw2, hg]; exact Blk.new _ _ _)
  have V2 : Hid (BV w2 (fun j => w0.heap.size ≤ j ∧ j < w1.heap.size) (.slice A1 x.length c1) x) := hid ((O1.out.bv.mono (fun j hj hlt => ⟨hj, hlt⟩)).below B2)
  have BB2 := hid (bO B1.out B2)
  have R2 := hid (R1.out.below B2)
  have sg : g = w1.heap.size := hg
  have SG := hid hg
  have s2 := B2.size
  rw [← hw2, ← hg]
  clear hw2 B2 hg sg
  have gw : w0.heap.size ≤ g := by rw [SG.out]; exact s1
  refine (takepacket_any w2 g _ x _ 0 false RD.out V2.out (fun j hj e => by have := hj.2; rw [← SG.out] at this; omega) (Nat.zero_le _) (by omega)).mono ?_
  rintro e w3 ⟨p, vd, a', b', q, rfl, hd, hdl, hq, hrd, ha1, ha2, hf⟩
  have B3 : Hid (Below w.heap.size w w3) := hid (Frm.below BB2.out hf BB2.out.size (fun i hi => by subst hi; have := BW.out.size; omega))
  have R3 := hid (R2.out.frm hf (by omega))
  have D3 := hid hd
  have DL := hid hdl
  have HQ := hid hq
  have RD3 := hid hrd
  have s3 := hf.size
  obtain ⟨Ad, cd, rfl, _, _⟩ := hd.len
  clear hd hq hrd hf hdl
  have r1 := RD3.out.cell 1
  simp only [gA, gZ, gC] at r1
  have r4 := cell_in_alloc' r1 (.cells #[.int .i64 p.kind, .int .i64 p.path, .int .i64 p.number, .int .i64 p.of_, .int .i64 p.from_, .slice Ad p.data.length cd, .bool p.fin, .int .i64 p.seen, .int .i64 p.limit] 27)
  have R4 : Hid (Blk (w3.alloc (.cells #[.int .i64 p.kind, .int .i64 p.path, .int .i64 p.number, .int .i64 p.of_, .int .i64 p.from_, .slice Ad p.data.length cd, .bool p.fin, .int .i64 p.seen, .int .i64 p.limit] 27)) gr #[.int .i64 0, .int .i64 0, .int .i64 0, .int .i64 0, .int .i64 0, .slice none 0 0, .bool false, .int .i64 0, .int .i64 0] 27) := hid (R3.out.alloc _)
  have B4 : Hid (Below w.heap.size w (w3.alloc (.cells #[.int .i64 p.kind, .int .i64 p.path, .int .i64 p.number, .int .i64 p.of_, .int .i64 p.from_, .slice Ad p.data.length cd, .bool p.fin, .int .i64 p.seen, .int .i64 p.limit] 27))) := hid (B3.out.alloc B3.out.size _)
  have zc0 := R4.out.cell 0
  have zc1 := R4.out.cell 1
  have zc2 := R4.out.cell 2
  have zc3 := R4.out.cell 3
  have zc4 := R4.out.cell 4
  have zc5 := R4.out.cell 5
  have zc6 := R4.out.cell 6
  have zc7 := R4.out.cell 7
  have zc8 := R4.out.cell 8
  have zf0 := R4.out.free 0
  have zf1 := R4.out.free 1
  have zf2 := R4.out.free 2
  have zf3 := R4.out.free 3
  have zf4 := R4.out.free 4
  have zf5 := R4.out.free 5
  have zf6 := R4.out.free 6
  have zf7 := R4.out.free 7
  have zf8 := R4.out.free 8
  simp only [gA, gZ, gC] at zc0 zc1 zc2 zc3 zc4 zc5 zc6 zc7 zc8
  cases q
  ·go_wp2_with fail
   refine bodyPost_ret (results_crt rfl _ (fill9 (w3.alloc (.cells #[.int .i64 p.kind, .int .i64 p.path, .int .i64 p.number, .int .i64 p.of_, .int .i64 p.from_, .slice Ad p.data.length cd, .bool p.fin, .int .i64 p.seen, .int .i64 p.limit] 27)) gr (.int .i64 0) (.int .i64 0) (.int .i64 0) (.int .i64 0) (.int .i64 0) (.slice none 0 0) (.bool false) (.int .i64 0) (.int .i64 0)) gr 27 _ (0, 0) _ rfl (fill9_blk R4.out (.int .i64 0) (.int .i64 0) (.int .i64 0) (.int .i64 0) (.int .i64 0) (.slice none 0 0) (.bool false) (.int .i64 0) (.int .i64 0)) Tryz.underlying27 rfl Tryz.size27) rfl ?_
   exact unp_end B4.out sgr ⟨0, 0, 0, 0, 0, [], false, 0, 0⟩ (.slice none 0 0) false (BV.nil _ _) (Nat.zero_le _) (fun h => by cases h) (.int .i64 0) (.int .i64 0) (.int .i64 0) (.int .i64 0) (.int .i64 0) (.slice none 0 0) (.bool false) (.int .i64 0) (.int .i64 0)
  ·by_cases hal : a' = x.length
   ·have hab : (((a' : Nat) : Int) == (x.length : Int)) = true := by rw [beq_iff_eq]; omega
    have hyes := HQ.out rfl
    rw [hal, Nat.sub_zero, List.drop_zero, List.take_length] at hyes
    have HY := hid hyes
    clear hyes hal
    go_wp2_with fail
    refine bodyPost_ret (results_crt rfl _ (fill9 (w3.alloc (.cells #[.int .i64 p.kind, .int .i64 p.path, .int .i64 p.number, .int .i64 p.of_, .int .i64 p.from_, .slice Ad p.data.length cd, .bool p.fin, .int .i64 p.seen, .int .i64 p.limit] 27)) gr (.int .i64 p.kind) (.int .i64 p.path) (.int .i64 p.number) (.int .i64 p.of_) (.int .i64 p.from_) (.slice Ad p.data.length cd) (.bool p.fin) (.int .i64 p.seen) (.int .i64 p.limit)) gr 27 _ (0, 0) _ rfl (fill9_blk R4.out (.int .i64 p.kind) (.int .i64 p.path) (.int .i64 p.number) (.int .i64 p.of_) (.int .i64 p.from_) (.slice Ad p.data.length cd) (.bool p.fin) (.int .i64 p.seen) (.int .i64 p.limit)) Tryz.underlying27 rfl Tryz.size27) rfl ?_
    refine unp_end B4.out sgr p (.slice Ad p.data.length cd) true ((D3.out.mono (fun j hj hlt => ?_)).alloc _) (Nat.le_trans DL.out hxl) (fun _ => ⟨HY.out.1, by rw [HY.out.2]; exact HX.out⟩) (.int .i64 p.kind) (.int .i64 p.path) (.int .i64 p.number) (.int .i64 p.of_) (.int .i64 p.from_) (.slice Ad p.data.length cd) (.bool p.fin) (.int .i64 p.seen) (.int .i64 p.limit)
    have := BW.out.size
    exact ⟨by omega, by omega⟩
   ·have hab : (((a' : Nat) : Int) == (x.length : Int)) = false := by rw [beq_eq_false_iff_ne]; omega
    clear hal
    go_wp2_with fail
    refine bodyPost_ret (results_crt rfl _ (fill9 (w3.alloc (.cells #[.int .i64 p.kind, .int .i64 p.path, .int .i64 p.number, .int .i64 p.of_, .int .i64 p.from_, .slice Ad p.data.length cd, .bool p.fin, .int .i64 p.seen, .int .i64 p.limit] 27)) gr (.int .i64 0) (.int .i64 0) (.int .i64 0) (.int .i64 0) (.int .i64 0) (.slice none 0 0) (.bool false) (.int .i64 0) (.int .i64 0)) gr 27 _ (0, 0) _ rfl (fill9_blk R4.out (.int .i64 0) (.int .i64 0) (.int .i64 0) (.int .i64 0) (.int .i64 0) (.slice none 0 0) (.bool false) (.int .i64 0) (.int .i64 0)) Tryz.underlying27 rfl Tryz.size27) rfl ?_
    exact unp_end B4.out sgr ⟨0, 0, 0, 0, 0, [], false, 0, 0⟩ (.slice none 0 0) false (BV.nil _ _) (Nat.zero_le _) (fun h => by cases h) (.int .i64 0) (.int .i64 0) (.int .i64 0) (.int .i64 0) (.int .i64 0) (.slice none 0 0) (.bool false) (.int .i64 0) (.int .i64 0)
end

section
/-! ### The sum of bits is linear -/
theorem xor_shuf (a b c d : Nat) : (a ^^^ b) ^^^ (c ^^^ d) = (a ^^^ c) ^^^ (b ^^^ d) := by
 rw [Nat.xor_assoc, Nat.xor_assoc]
 congr 1
 rw [← Nat.xor_assoc, ← Nat.xor_assoc, Nat.xor_comm b c]
theorem xor_zero_eq {a b : Nat} (h : a ^^^ b = 0) : a = b := by
 have : a ^^^ b ^^^ b = b := by rw [h, Nat.zero_xor]
 rwa [Nat.xor_assoc, Nat.xor_self, Nat.xor_zero] at this
theorem crcBit_xor (a b : Nat) : crcBit (a ^^^ b) = crcBit a ^^^ crcBit b := by
 have h2 : (a ^^^ b) % 2 = (a % 2) ^^^ (b % 2) := by
  have := @Nat.xor_mod_two_pow a b 1
  simpa using this
 unfold crcBit
 rw [Nat.xor_div_two]
 rcases Nat.mod_two_eq_zero_or_one a with ha | ha <;> rcases Nat.mod_two_eq_zero_or_one b with hb | hb
 ·rw [h2, ha, hb, if_neg (by decide), if_neg (by decide), if_neg (by decide)]
 ·rw [h2, ha, hb, if_pos (by decide), if_neg (by decide), if_pos (by decide), Nat.xor_assoc]
 ·rw [h2, ha, hb, if_pos (by decide), if_pos (by decide), if_neg (by decide), Nat.xor_assoc, Nat.xor_assoc, Nat.xor_comm 3988292384]
 ·rw [h2, ha, hb, if_neg (by decide), if_pos (by decide), if_pos (by decide), xor_shuf, Nat.xor_self, Nat.xor_zero]
theorem crcIt_xor (a b : Nat) : ∀ k, crcIt k (a ^^^ b) = crcIt k a ^^^ crcIt k b
 | 0 => rfl
 | k + 1 => by rw [crcIt, crcIt_xor a b k, crcBit_xor]; rfl
theorem crcBit_two (y : Nat) : crcBit (2 * y) = y := by unfold crcBit; rw [if_neg (by omega)]; omega
theorem crcIt_add (a s : Nat) : ∀ b, crcIt (b + a) s = crcIt b (crcIt a s)
 | 0 => by rw [Nat.zero_add]; rfl
 | b + 1 => by rw [show b + 1 + a = (b + a) + 1 from by omega, crcIt, crcIt_add a s b]; rfl
theorem crcIt_pow (k y : Nat) : crcIt k (2 ^ k * y) = y := by
 induction k generalizing y with
 | zero => simp [crcIt]
 | succ k ih =>
  rw [crcIt, show 2 ^ (k + 1) * y = 2 ^ k * (2 * y) from by rw [Nat.pow_succ]; simp [Nat.mul_assoc], ih, crcBit_two]
theorem crcBit_ne {s : Nat} (h : s < 4294967296) (h0 : s ≠ 0) : crcBit s ≠ 0 ∧ crcBit s < 4294967296 := by
 refine ⟨?_, crcBit_lt h⟩
 unfold crcBit
 split
 ·intro e
  have := xor_zero_eq e
  omega
 ·omega
theorem crcIt_ne {s : Nat} (h : s < 4294967296) (h0 : s ≠ 0) : ∀ k, crcIt k s ≠ 0 ∧ crcIt k s < 4294967296
 | 0 => ⟨h0, h⟩
 | k + 1 => crcBit_ne (crcIt_ne h h0 k).2 (crcIt_ne h h0 k).1
/-! ### Bytes as one number -/
def vN : List Int → Nat
 | [] => 0
 | x :: l => x.toNat ^^^ (256 * vN l)
theorem mul_xor (a b : Nat) : 256 * (a ^^^ b) = 256 * a ^^^ 256 * b := by
 have := Nat.shiftLeft_xor_distrib (a := a) (b := b) (i := 8)
 simpa [Nat.shiftLeft_eq, Nat.mul_comm] using this
theorem low_xor {x y : Nat} (hx : x < 256) : (x ^^^ 256 * y) % 256 = x ∧ (x ^^^ 256 * y) / 256 = y := by
 have h1 := @Nat.xor_mod_two_pow x (256 * y) 8
 have h2 := Nat.shiftRight_xor_distrib (a := x) (b := 256 * y) (i := 8)
 simp only [Nat.shiftRight_eq_div_pow, show (2 : Nat) ^ 8 = 256 from rfl, Nat.mul_mod_right, Nat.xor_zero, Nat.mod_eq_of_lt hx, Nat.mul_div_cancel_left y (show 0 < 256 by omega), Nat.div_eq_of_lt hx, Nat.zero_xor] at h1 h2
 exact ⟨h1, h2⟩
theorem vN_inj : ∀ (a b : List Int), a.length = b.length → Byt a → Byt b → vN a = vN b → a = b
 | [], [], _, _, _, _ => rfl
 | x :: a, y :: b, hl, ha, hb, h => by
  have hx := ha x (by simp)
  have hy := hb y (by simp)
  have hx' : x.toNat < 256 := by omega
  have hy' : y.toNat < 256 := by omega
  unfold vN at h
  have e1 := (low_xor (y := vN a) hx').1
  have e2 := (low_xor (y := vN a) hx').2
  rw [h, (low_xor hy').1] at e1
  rw [h, (low_xor hy').2] at e2
  rw [vN_inj a b (by simpa using hl) (fun z hz => ha z (by simp [hz])) (fun z hz => hb z (by simp [hz])) e2.symm, show x = y from by omega]
 | [], _ :: _, h, _, _, _ => by simp at h
 | _ :: _, [], h, _, _, _ => by simp at h
theorem crcUp_vN : ∀ (l : List Int) (s : Nat), crcUp s l = crcIt (8 * l.length) (s ^^^ vN l)
 | [], s => by simp [crcUp, vN, crcIt]
 | x :: l, s => by
  have e : crcUp s (x :: l) = crcUp (crcIt 8 (s ^^^ x.toNat)) l := rfl
  have e3 := crcIt_pow 8 (vN l)
  rw [show (2 : Nat) ^ 8 = 256 from rfl] at e3
  rw [e, crcUp_vN l, vN, List.length_cons, show 8 * (l.length + 1) = 8 * l.length + 8 from by omega, crcIt_add, ← Nat.xor_assoc, crcIt_xor _ (256 * vN l), e3]
theorem xor_cast {x : Int} (h : 0 ≤ x ∧ x < 256) {r : Nat} (hr : r < 8) : (bits .xor .u8 x ((2 : Int) ^ r % 256)).toNat = x.toNat ^^^ 2 ^ r := by
 obtain ⟨n, rfl⟩ : ∃ n : Nat, x = n := ⟨x.toNat, by omega⟩
 have h2 : (2 : Nat) ^ r < 256 := by have : (2 : Nat) ^ r < 2 ^ 8 := Nat.pow_lt_pow_right (by omega) hr; omega
 rw [two_pow_mod r hr, bits_xor_u8 n _ (by omega) h2]
 rfl
theorem vN_set : ∀ (l : List Int) (i r : Nat), Byt l → i < l.length → r < 8 → vN (l.set i (bits .xor .u8 (l.getD i 0) ((2 : Int) ^ r % 256))) = vN l ^^^ 2 ^ (8 * i + r)
 | x :: l, 0, r, hb, _, hr => by
  have hx := hb x (by simp)
  simp only [List.set_cons_zero, List.getD_cons_zero, vN]
  rw [xor_cast hx hr, Nat.xor_assoc, Nat.xor_comm (2 ^ r), ← Nat.xor_assoc, Nat.mul_zero, Nat.zero_add]
 | x :: l, i + 1, r, hb, hi, hr => by
  simp only [List.set_cons_succ, List.getD_cons_succ, vN]
  rw [vN_set l i r (fun z hz => hb z (by simp [hz])) (by simpa using hi) hr, mul_xor, ← Nat.xor_assoc, show 256 * 2 ^ (8 * i + r) = 2 ^ (8 * (i + 1) + r) from by rw [show 8 * (i + 1) + r = 8 + (8 * i + r) from by omega, Nat.pow_add 2 8]]
 | [], _, _, _, h, _ => by simp at h
theorem byt_flip {l : List Int} (h : Byt l) (p : Nat) (hp : p < 8 * l.length) : Byt (flipI l p) ∧ vN (flipI l p) = vN l ^^^ 2 ^ p := by
 have h8 : p / 8 < l.length := by omega
 have hr : p % 8 < 8 := Nat.mod_lt _ (by omega)
 have hx : 0 ≤ l.getD (p / 8) 0 ∧ l.getD (p / 8) 0 < 256 := by
  rw [List.getD_eq_getElem?_getD, List.getElem?_eq_getElem h8]
  exact h _ (List.getElem_mem h8)
 refine ⟨fun y hy => ?_, ?_⟩
 ·unfold flipI at hy
  rcases List.mem_or_eq_of_mem_set hy with h1 | h1
  ·exact h y h1
  ·rw [h1]; exact xor_byte hx hr
 ·unfold flipI
  rw [vN_set l (p / 8) (p % 8) h h8 hr, show 8 * (p / 8) + p % 8 = p from by omega]
/-- What spoiling turns. -/
theorem spI_vN (bit mask : Int) (l : List Int) (hb : Byt l) (b : Nat) (hbb : bit ≤ (b : Int)) (hb0 : (b : Int) = bit ∨ (b = 0 ∧ bit ≤ 0)) : ∀ k : Nat, Byt (spI bit mask l k) ∧ ∃ E, vN (spI bit mask l k) = vN l ^^^ E ∧ E < 2 ^ (bit + k).toNat ∧ ∃ d, E = 2 ^ b * d
 | 0 => ⟨hb, 0, by simp [spI], Nat.two_pow_pos _, 0, by simp⟩
 | k + 1 => by
  obtain ⟨h1, E, h2, h3, d, h4⟩ := spI_vN bit mask l hb b hbb hb0 k
  have hm : ∀ n m : Nat, n ≤ m → (2 : Nat) ^ n ≤ 2 ^ m := fun n m h => Nat.pow_le_pow_right (by omega) h
  unfold spI
  split
  ·rename_i hc
   obtain ⟨_, c1, c2⟩ := hc
   have hl := spI_len bit mask l k
   obtain ⟨g1, g2⟩ := byt_flip h1 (bit + k).toNat (by rw [hl]; omega)
   have h5 : E ^^^ 2 ^ (bit + k).toNat = E + 2 ^ (bit + k).toNat := by
    apply Nat.eq_of_testBit_eq
    intro j
    rw [show E + 2 ^ (bit + k).toNat = 2 ^ (bit + k).toNat * 1 + E from by omega, Nat.testBit_two_pow_mul_add _ h3, Nat.testBit_xor, Nat.testBit_two_pow]
    split
    ·rw [decide_eq_false (by omega), Bool.xor_false]
    ·rw [Nat.testBit_lt_two_pow (Nat.lt_of_lt_of_le h3 (hm _ _ (by omega))), Bool.false_xor]
     by_cases hj : (bit + k).toNat = j
     ·subst hj; simp
     ·rw [decide_eq_false hj, Nat.testBit_lt_two_pow (Nat.lt_of_lt_of_le (show 1 < 2 ^ 1 by omega) (hm _ _ (by omega)))]
   refine ⟨g1, E ^^^ 2 ^ (bit + k).toNat, by rw [g2, h2, Nat.xor_assoc], ?_, ?_⟩
   ·rw [h5, show (bit + ((k + 1 : Nat) : Int)).toNat = (bit + k).toNat + 1 from by omega, Nat.pow_succ]
    omega
   ·refine ⟨d + 2 ^ ((bit + k).toNat - b), ?_⟩
    rw [h5, h4, Nat.mul_add, ← Nat.pow_add, show b + ((bit + k).toNat - b) = (bit + k).toNat from by omega]
  ·exact ⟨h1, E, h2, Nat.lt_of_lt_of_le h3 (hm _ _ (by omega)), d, h4⟩
/-- The sum of a sealed text is always one. -/
theorem sealed_up {x : List Int} (hx : Byt x) : crcUp 4294967295 (sealL x) = crcIt 32 4294967295 := by
 unfold sealL
 have hc := crcL_lt hx
 have e : ∀ (a b : List Int) (s : Nat), crcUp s (a ++ b) = crcUp (crcUp s a) b := fun a b s => by simp [crcUp, List.foldl_append]
 rw [e, crcUp_vN]
 have hu : crcUp 4294967295 x = crcL x ^^^ 4294967295 := by unfold crcL; rw [Nat.xor_assoc, Nat.xor_self, Nat.xor_zero]
 generalize hcc : crcL x = c at *
 have hv : vN [((c : Nat) : Int) % 256, ((c : Nat) : Int) / 256 % 256, ((c : Nat) : Int) / 65536 % 256, ((c : Nat) : Int) / 16777216] = c := by
  simp only [vN]
  have h4 : (((c : Nat) : Int) / 16777216).toNat = c / 16777216 := by omega
  have h3 : (((c : Nat) : Int) / 65536 % 256).toNat = c / 65536 % 256 := by omega
  have h2 : (((c : Nat) : Int) / 256 % 256).toNat = c / 256 % 256 := by omega
  have h1 : (((c : Nat) : Int) % 256).toNat = c % 256 := by omega
  have ad : ∀ {x y : Nat}, x < 256 → x ^^^ 256 * y = x + 256 * y := fun {x y} h => by
   have := low_xor (y := y) h
   have := Nat.div_add_mod (x ^^^ 256 * y) 256
   omega
  rw [h1, h2, h3, h4, Nat.mul_zero, Nat.xor_zero, ad (Nat.mod_lt _ (by omega)), ad (Nat.mod_lt _ (by omega)), ad (Nat.mod_lt _ (by omega))]
  omega
 rw [hv, hu, Nat.xor_assoc, Nat.xor_comm 4294967295, ← Nat.xor_assoc, Nat.xor_self, Nat.zero_xor]
 rfl
theorem byt_left {a b : List Int} (h : Byt (a ++ b)) : Byt a := fun x hx => h x (List.mem_append_left _ hx)
/-- A spoilt seal is no seal. -/
theorem seal_burst {x y : List Int} {bit mask : Int} (hx : Byt (sealL x)) (hy : Byt (sealL y)) (h : spoilL bit mask (sealL y) = sealL x) : sealL x = sealL y := by
 have hbx : Byt x := byt_left hx
 have hby : Byt y := byt_left hy
 have hlen : (sealL x).length = (sealL y).length := by rw [← h, spoilL_len]
 unfold spoilL at h
 split at h
 ·exact h.symm
 ·rename_i hc
  obtain ⟨_, E, h2, h3, d, h4⟩ := spI_vN bit mask (sealL y) hy bit.toNat (by omega) (by omega) 32
  rw [h] at h2
  have e1 := sealed_up hbx
  have e2 := sealed_up hby
  rw [crcUp_vN] at e1 e2
  rw [h2, ← Nat.xor_assoc, crcIt_xor, hlen, e2] at e1
  have e3 : crcIt (8 * (sealL y).length) E = 0 := by
   have := congrArg (crcIt 32 4294967295 ^^^ ·) e1
   simp only [← Nat.xor_assoc, Nat.xor_self, Nat.zero_xor] at this
   exact this
  have hbl : bit.toNat ≤ 8 * (sealL y).length := by omega
  rw [h4, show 8 * (sealL y).length = (8 * (sealL y).length - bit.toNat) + bit.toNat from by omega, crcIt_add, crcIt_pow] at e3
  have hd : d < 4294967296 := by
   have hp : E < 2 ^ bit.toNat * 2 ^ 32 := by
    rw [← Nat.pow_add]
    exact Nat.lt_of_lt_of_le h3 (Nat.pow_le_pow_right (by omega) (by omega))
   rw [h4] at hp
   have := Nat.lt_of_mul_lt_mul_left hp
   omega
  have hd0 : d = 0 := Classical.byContradiction fun h0 => (crcIt_ne hd h0 _).1 e3
  rw [h4, hd0, Nat.mul_zero, Nat.xor_zero] at h2
  exact vN_inj _ _ hlen hx hy h2
/-! ### A packet's bytes tell it -/
theorem putN_app {n m : Int} {r s : List Int} (hn : 0 ≤ n ∧ n < 1073741824) (hm : 0 ≤ m ∧ m < 1073741824) (h : putN n ++ r = putN m ++ s) : n = m ∧ r = s := by
 unfold putN at h
 split at h
 ·split at h
  ·simpa using h
  ·split at h
   ·simp only [List.cons_append, List.cons.injEq, List.nil_append] at h; omega
   ·simp only [List.cons_append, List.cons.injEq, List.nil_append] at h; omega
 ·split at h
  ·split at h
   ·simp only [List.cons_append, List.cons.injEq, List.nil_append] at h; omega
   ·split at h
    ·simp only [List.cons_append, List.cons.injEq, List.nil_append] at h; exact ⟨by omega, h.2.2⟩
    ·simp only [List.cons_append, List.cons.injEq, List.nil_append] at h; omega
  ·split at h
   ·simp only [List.cons_append, List.cons.injEq, List.nil_append] at h; omega
   ·split at h
    ·simp only [List.cons_append, List.cons.injEq, List.nil_append] at h; omega
    ·simp only [List.cons_append, List.cons.injEq, List.nil_append] at h; exact ⟨by omega, h.2.2.2.2⟩
theorem putN_one {n m : Int} (hn : 0 ≤ n ∧ n < 1073741824) (hm : 0 ≤ m ∧ m < 1073741824) (h : putN n = putN m) : n = m :=
 (putN_app (r := []) (s := []) hn hm (by rw [h])).1
theorem plain_inj {p q : Pk} (hp : RightP p p.data.length) (hq : RightP q q.data.length) (h : plainL p = plainL q) : p = q := by
 unfold plainL at h
 simp only [List.append_assoc, List.cons_append, List.nil_append, List.cons.injEq] at h
 obtain ⟨hk, h⟩ := h
 have p1 := hp.path
 have q1 := hq.path
 have p2 := hp.number
 have q2 := hq.number
 obtain ⟨e1, h⟩ := putN_app (by omega) (by omega) h
 obtain ⟨e2, h⟩ := putN_app (by omega) (by omega) h
 rw [← hk] at h
 obtain ⟨pk, pp, pn, po, pf, pd, pi, ps, pl⟩ := p
 obtain ⟨qk, qp, qn, qo, qf, qd, qi, qs, ql⟩ := q
 obtain ⟨a1, _, _, a4, a5, a6, a7, a8, a9⟩ := hp
 obtain ⟨_, _, _, b4, b5, b6, b7, b8, b9⟩ := hq
 dsimp only at *
 subst hk e1 e2
 rcases (by omega : pk = 1 ∨ pk = 2 ∨ pk = 3 ∨ pk = 4) with rfl | rfl | rfl | rfl
 ·have x5 := a5 (by omega); have x7 := a7 (by omega); have x9 := a9 (by omega)
  have y5 := b5 (by omega); have y7 := b7 (by omega); have y9 := b9 (by omega)
  have d1 := List.eq_nil_of_length_eq_zero x7.2.1
  have d2 := List.eq_nil_of_length_eq_zero y7.2.1
  rw [x5, y5, x7.1, y7.1, d1, d2, x7.2.2, y7.2.2, x9.1, y9.1, x9.2, y9.2]
 ·have x4 := a4 (by omega); have x7 := a7 (by omega); have x9 := a9 (by omega)
  have y4 := b4 (by omega); have y7 := b7 (by omega); have y9 := b9 (by omega)
  have d1 := List.eq_nil_of_length_eq_zero x7.2.1
  have d2 := List.eq_nil_of_length_eq_zero y7.2.1
  rw [if_pos rfl, if_pos rfl] at h
  rw [putN_one (by omega) (by omega) h, x7.1, y7.1, d1, d2, x7.2.2, y7.2.2, x9.1, y9.1, x9.2, y9.2]
 ·have x5 := a5 (by omega); have x6 := a6 (by omega); have x9 := a9 (by omega)
  have y5 := b5 (by omega); have y6 := b6 (by omega); have y9 := b9 (by omega)
  simp only [if_neg (show ¬ (3 : Int) = 2 by omega), if_pos (show (3 : Int) = 3 from rfl), List.append_assoc] at h
  obtain ⟨e3, h⟩ := putN_app (by omega) (by omega) h
  obtain ⟨e4, h⟩ := putN_app (by omega) (by omega) h
  obtain ⟨e5, h⟩ := List.append_inj h (by omega)
  have e6 : pi = qi := by
   revert h
   cases pi <;> cases qi <;> simp
  rw [x5, y5, e3, e5, e6, x9.1, y9.1, x9.2, y9.2]
 ·have x4 := a4 (by omega); have x7 := a7 (by omega); have x8 := a8 (by omega)
  have y4 := b4 (by omega); have y7 := b7 (by omega); have y8 := b8 (by omega)
  have d1 := List.eq_nil_of_length_eq_zero x7.2.1
  have d2 := List.eq_nil_of_length_eq_zero y7.2.1
  simp only [if_neg (show ¬ (4 : Int) = 2 by omega), if_neg (show ¬ (4 : Int) = 3 by omega), if_pos (show (4 : Int) = 4 from rfl)] at h
  obtain ⟨e3, h⟩ := putN_app (by omega) (by omega) h
  obtain ⟨e4, h⟩ := putN_app (by omega) (by omega) h
  rw [e3, e4, putN_one (by omega) (by omega) h, x7.1, y7.1, d1, d2, x7.2.2, y7.2.2]
theorem seal_inj {x y : List Int} (h : sealL x = sealL y) : x = y := by
 have hl : (sealL x).length = (sealL y).length := by rw [h]
 rw [sealL_len, sealL_len] at hl
 unfold sealL at h
 exact (List.append_inj h (by omega)).1
theorem packet_inj {p q : Pk} (hp : RightP p p.data.length) (hq : RightP q q.data.length) (h : sealL (plainL p) = sealL (plainL q)) : p = q := plain_inj hp hq (seal_inj h)
end

section
structure DuV where
 ge : Bool → Nat
 x : Bool → EndV
 v : Bool → Value
 l : Bool → List By2
 u : Bool → Value
 g : Bool → List Int
/-- An end's code. -/
def kk (s : Bool) : Nat := if s then 200 else 100
def up {α : Type} (f : Bool → α) (s : Bool) (y : α) : Bool → α := fun t => if t = s then y else f t
theorem up_same {α : Type} (f : Bool → α) (s : Bool) (y : α) : up f s y s = y := by simp [up]
theorem up_other {α : Type} (f : Bool → α) {s t : Bool} (y : α) (h : t ≠ s) : up f s y t = f t := by simp [up, h]
theorem up_not {α : Type} (f : Bool → α) (s : Bool) (y : α) : up f s y (!s) = f (!s) := up_other f y (by cases s <;> simp)
theorem kk_cases (s : Bool) : kk s = 100 ∨ kk s = 200 := by cases s <;> simp [kk]
theorem kk_ne {s t : Bool} (h : t ≠ s) : kk t + 100 ≤ kk s ∨ kk s + 100 ≤ kk t := by cases s <;> cases t <;> simp [kk] at *
theorem sN_cases (s : Bool) : sN s = 0 ∨ sN s = 1 := by cases s <;> simp [sN]
theorem sN_ne {s t : Bool} (h : t ≠ s) : sN t ≠ sN s := by cases s <;> cases t <;> simp [sN] at *
abbrev dcs (d : DuV) : Array Value := #[.pointer (some ⟨d.ge false, 0, none⟩), .pointer (some ⟨d.ge true, 0, none⟩), d.v false, d.v true, d.u false, d.u true]
structure DuS (o : Nat → Nat) (B : Nat) (w : World) (gd : Nat) (d : DuV) : Prop where
 blk : Blk w gd (dcs d) 87
 og : o gd = 300
 gb : B ≤ gd
 e : ∀ s, EndS o (kk s) B w (d.ge s) (d.x s)
 n : ∀ s, BRw o B w (d.v s) (d.l s)
 no : ∀ s, Ow o w (302 + sN s) (d.v s)
 g : ∀ s, BO B w (d.u s) (d.g s)
 go : ∀ s, Ow o w (304 + sN s) (d.u s)
/-- The codes of a duel. -/
def DC : Nat → Prop := fun c => 100 ≤ c ∧ c < 400
section
variable {C : Nat → Prop} {o o' : Nat → Nat} {B : Nat} {w w' : World} {gd : Nat} {d : DuV}
theorem BRw.stp {v : Value} {l : List By2} {c : Nat} (h : BRw o B w v l) (ow : Ow o w c v) (s : Stp C o o' w w') (h0 : ¬ C 0) (hc : ¬ C c) (hz : c ≠ 0) : BRw o' B w' v l := OutG.frmO liesB h ow s h0 hc hz
theorem BO.stp {v : Value} {l : List Int} {c : Nat} (h : BO B w v l) (ow : Ow o w c v) (s : Stp C o o' w w') (hc : ¬ C c) : BO B w' v l := h.frm s.f (fun j hj e => hc ((ow j hj).1 ▸ e))
theorem DuS.frm (h : DuS o B w gd d) (s : Stp C o o' w w') (h0 : ¬ C 0) (hC : ∀ c, C c → ¬ DC c) : DuS o' B w' gd d := by
 have hk := fun s => kk_cases s
 have hs := fun s => sN_cases s
 refine ⟨h.blk.frm s.f (fun e => hC _ e (by rw [h.og]; exact ⟨by omega, by omega⟩)), (s.ag _ h.blk.lt).trans h.og, h.gb, fun t => (h.e t).frm s h0 (fun c hc => ?_), fun t => (h.n t).stp (h.no t) s h0 (fun e => hC _ e ?_) (by omega), fun t => (h.no t).frm s.ag s.size, fun t => (h.g t).stp (h.go t) s (fun e => hC _ e ?_), fun t => (h.go t).frm s.ag s.size⟩
 ·have h1 := hC c hc
  have h2 := hk t
  unfold DC at h1
  omega
 ·have := hs t
  exact ⟨by omega, by omega⟩
 ·have := hs t
  exact ⟨by omega, by omega⟩
theorem DuS.below (h : DuS o B w gd d) (b : Below w.heap.size w w') : DuS o B w' gd d := h.frm (C := fun _ => False) (Stp.below b) (fun h => h) (fun _ h => h.elim)
/-- An end acted. -/
theorem DuS.putE (h : DuS o B w gd d) {s : Bool} {x' : EndV} (he : EndS o' (kk s) B w' (d.ge s) x') (st : Stp (EC (kk s)) o o' w w') : DuS o' B w' gd { d with x := up d.x s x' } := by
 have hk := kk_cases s
 have hs := fun s => sN_cases s
 refine ⟨h.blk.frm st.f (fun e => by rw [h.og] at e; have := e.1; have := e.2; omega), (st.ag _ h.blk.lt).trans h.og, h.gb, fun t => ?_, fun t => (h.n t).stp (h.no t) st (fun e => by have := e.1; omega) (fun e => by have := e.2; have := hs t; omega) (by omega), fun t => (h.no t).frm st.ag st.size, fun t => (h.g t).stp (h.go t) st (fun e => by have := e.2; have := hs t; omega), fun t => (h.go t).frm st.ag st.size⟩
 by_cases ht : t = s
 ·subst ht
  show EndS o' (kk t) B w' (d.ge t) (up d.x t x' t)
  rw [up_same]
  exact he
 ·show EndS o' (kk t) B w' (d.ge t) (up d.x s x' t)
  rw [up_other _ _ ht]
  refine (h.e t).frm st (fun e => by have := e.1; omega) (fun c hc => ?_)
  have := kk_ne ht
  have h1 := hc.1
  have h2 := hc.2
  omega
theorem dcs_v (d : DuV) (s : Bool) (v : Value) (l : Bool → List By2) : (dcs d).setIfInBounds (2 + sN s) v = dcs { d with v := up d.v s v, l := l } := by
 cases s <;> simp [dcs, sN, up]
/-- What is under way at a side is something else. -/
theorem DuS.putN (h : DuS o B w gd d) {s : Bool} {l' : List By2} (hn : NSet o B w gd s l' w') : ∃ (o' : Nat → Nat) (v' : Value), DuS o' B w' gd { d with v := up d.v s v', l := up d.l s l' } ∧ Stp (fun c => c = 300 ∨ c = 302 + sN s) o o' w w' := by
 obtain ⟨o', v', st, hc, hb, hw⟩ := hn
 have hk := fun s => kk_cases s
 have hs := fun s => sN_cases s
 have h1 := hs s
 refine ⟨o', v', ⟨?_, (st.ag _ h.blk.lt).trans h.og, h.gb, fun t => (h.e t).frm st (by omega) (fun c hc => by have := hk t; omega), fun t => ?_, fun t => ?_, fun t => (h.g t).stp (h.go t) st (by have := hs t; omega), fun t => (h.go t).frm st.ag st.size⟩, st⟩
 ·have := hc _ _ h.blk
  rw [dcs_v d s v' (up d.l s l')] at this
  exact this
 ·show BRw o' B w' (up d.v s v' t) (up d.l s l' t)
  by_cases ht : t = s
  ·subst ht
   rw [up_same, up_same]
   exact hb
  ·rw [up_other _ _ ht, up_other _ _ ht]
   have := sN_ne ht
   exact (h.n t).stp (h.no t) st (by omega) (by omega) (by omega)
 ·show Ow o' w' (302 + sN t) (up d.v s v' t)
  by_cases ht : t = s
  ·subst ht
   rw [up_same]
   exact hw
  ·rw [up_other _ _ ht]
   exact (h.no t).frm st.ag st.size
theorem dcs_u (d : DuV) (s : Bool) (v : Value) (g : Bool → List Int) : (dcs d).setIfInBounds (4 + sN s) v = dcs { d with u := up d.u s v, g := g } := by
 cases s <;> simp [dcs, sN, up]
/-- What was read at a side is something else. -/
theorem DuS.putG (h : DuS o B w gd d) {s : Bool} {g' : List Int} {v' : Value} (st : Stp (fun c => c = 300 ∨ c = 304 + sN s) o o' w w') (hb : Blk w' gd ((dcs d).setIfInBounds (4 + sN s) v') 87) (hg : BO B w' v' g') (hw : Ow o' w' (304 + sN s) v') : DuS o' B w' gd { d with u := up d.u s v', g := up d.g s g' } := by
 have hk := fun s => kk_cases s
 have hs := fun s => sN_cases s
 have h1 := hs s
 refine ⟨?_, (st.ag _ h.blk.lt).trans h.og, h.gb, fun t => (h.e t).frm st (by omega) (fun c hc => by have := hk t; omega), fun t => (h.n t).stp (h.no t) st (by omega) (by have := hs t; omega) (by omega), fun t => (h.no t).frm st.ag st.size, fun t => ?_, fun t => ?_⟩
 ·rw [dcs_u d s v' (up d.g s g')] at hb
  exact hb
 ·show BO B w' (up d.u s v' t) (up d.g s g' t)
  by_cases ht : t = s
  ·subst ht
   rw [up_same, up_same]
   exact hg
  ·rw [up_other _ _ ht, up_other _ _ ht]
   have := sN_ne ht
   exact (h.g t).stp (h.go t) st (by omega)
 ·show Ow o' w' (304 + sN t) (up d.u s v' t)
  by_cases ht : t = s
  ·subst ht
   rw [up_same]
   exact hw
  ·rw [up_other _ _ ht]
   exact (h.go t).frm st.ag st.size
theorem BRw.byt {v : Value} {l : List By2} (h : BRw o B w v l) {y : By2} (hy : y ∈ l) : Byt y.1 := by
 obtain ⟨vs, _, h2, h3, _⟩ := h
 obtain ⟨i, hi⟩ := List.getElem?_of_mem hy
 have hl := (List.getElem?_eq_some_iff.1 hi).1
 exact (h3 i y _ hi (List.getElem?_eq_getElem (by omega))).byt
end
/-! ### What holds at rest -/
/-- Bytes under way come of a packet that was said. -/
def NOk (ps : List Pk) (y : By2) : Prop := ∃ p ∈ ps, RightP p p.data.length ∧ Byt (sealL (plainL p)) ∧ ((y.2 = false ∧ y.1 = sealL (plainL p)) ∨ (y.2 = true ∧ y.1 ≠ sealL (plainL p) ∧ ∃ bit mask, y.1 = spoilL bit mask (sealL (plainL p))))
theorem NOk.mono {ps qs : List Pk} {y : By2} (h : NOk ps y) (hs : ∀ p ∈ ps, p ∈ qs) : NOk qs y := by
 obtain ⟨p, hp, h1⟩ := h
 exact ⟨p, hs p hp, h1⟩
theorem NOk.len {ps : List Pk} {y : By2} (h : NOk ps y) : y.1.length ≤ 1004 := by
 obtain ⟨p, _, hr, _, h⟩ := h
 have h1 := plainL_len hr
 have h2 := sealL_len (plainL p)
 rcases h with ⟨_, h⟩ | ⟨_, _, bit, mask, h⟩
 ·rw [h]; omega
 ·rw [h, spoilL_len]; omega
theorem NOk.spoil {ps : List Pk} {y : List Int} {bit mask : Int} (h : NOk ps (y, false)) (hne : spoilL bit mask y ≠ y) : NOk ps (spoilL bit mask y, true) := by
 obtain ⟨p, hp, hr, hb, ⟨_, h⟩ | ⟨h, _⟩⟩ := h
 ·dsimp only at h
  rw [h] at hne ⊢
  exact ⟨p, hp, hr, hb, .inr ⟨rfl, hne, bit, mask, rfl⟩⟩
 ·cases h
/-- What is unpacked was said. -/
theorem NOk.came {ps : List Pk} {y : By2} {p : Pk} (h : NOk ps y) (hb : Byt y.1) (hp : RightP p p.data.length) (he : y.1 = sealL (plainL p)) : p ∈ ps := by
 obtain ⟨q, hq, hr, hbq, h⟩ := h
 rcases h with ⟨_, h⟩ | ⟨_, hne, bit, mask, h⟩
 ·rw [h] at he
  rw [packet_inj hp hr he.symm]
  exact hq
 ·exfalso
  rw [he] at h hb hne
  exact hne (seal_burst hb hbq h.symm)
structure DInv (N : Bool → Nat) (d : DuV) (wl : List (Int × Ev)) : Prop where
 ok : ∀ s, EOk (N s) (d.x s)
 es : ∀ s, only (sI s) wl = (d.x s).es
 c : Caus wl
 t : Two wl
 net : ∀ s, ∀ y ∈ d.l s, NOk (sents (d.x (!s)).es) y
 nl : ∀ s, (d.l s).length ≤ 200
 out : ∀ s, ∀ p ∈ (d.x s).outs, p ∈ sents (d.x s).es
 gl : ∀ s, (d.g s).length ≤ N s
 sm : ∀ s, ∀ e ∈ (d.x s).es, e.data.length ≤ 1000000 ∧ e.pk.data.length ≤ 1000000
theorem sents_mem {l : List Ev} {p : Pk} (h : p ∈ sents l) : ∃ e ∈ l, e.kind = 5 ∧ e.pk = p := by
 induction l with
 | nil => simp [sents] at h
 | cons e l ih =>
  simp only [sents] at h
  split at h
  ·rename_i h5
   rcases List.mem_cons.1 h with h | h
   ·exact ⟨e, by simp, h5, h.symm⟩
   ·obtain ⟨f, h1, h2⟩ := ih h
    exact ⟨f, by simp [h1], h2⟩
  ·obtain ⟨f, h1, h2⟩ := ih h
   exact ⟨f, by simp [h1], h2⟩
theorem sI_not (s : Bool) : sI (!s) = 1 - sI s := by cases s <;> simp [sI]
theorem sI_two (s : Bool) : sI s = 0 ∨ sI s = 1 := by cases s <;> simp [sI]
theorem only_map (s t : Bool) (l : List Ev) : only (sI s) (l.map fun e => (sI t, e)) = if s = t then l else [] := by
 induction l with
 | nil => simp [only]
 | cons e l ih =>
  have h1 : (e :: l).map (fun e => (sI t, e)) = [(sI t, e)] ++ l.map fun e => (sI t, e) := rfl
  rw [h1, only_app, ih]
  by_cases h : s = t
  ·subst h
   rw [only_yes, if_pos rfl, if_pos rfl]
   rfl
  ·rw [only_no _ _ _ (by cases s <;> cases t <;> simp [sI] at *), if_neg h, if_neg h]
   rfl
theorem Caus.append (s : Int) : ∀ (es : List Ev) {l : List (Int × Ev)}, Caus l → (∀ e ∈ es, e.kind = 4 → ∃ f, (1 - s, f) ∈ l ∧ f.kind = 5 ∧ f.pk = e.pk) → Caus (l ++ es.map fun e => (s, e))
 | [], l, h, _ => by simpa using h
 | e :: es, l, h, he => by
  have h1 : l ++ (e :: es).map (fun e => (s, e)) = (l ++ [(s, e)]) ++ es.map fun e => (s, e) := by simp
  rw [h1]
  refine Caus.append s es (h.snoc s e (he e (by simp))) (fun f hf h4 => ?_)
  obtain ⟨g, h2, h3⟩ := he f (by simp [hf]) h4
  exact ⟨g, List.mem_append_left _ h2, h3⟩
theorem Two.append {l : List (Int × Ev)} (h : Two l) {s : Int} (hs : s = 0 ∨ s = 1) (es : List Ev) : Two (l ++ es.map fun e => (s, e)) := by
 intro y hy
 rcases List.mem_append.1 hy with hy | hy
 ·exact h y hy
 ·obtain ⟨e, _, rfl⟩ := List.mem_map.1 hy
  exact hs
/-- An end acted. -/
theorem DInv.act {N : Bool → Nat} {d : DuV} {wl : List (Int × Ev)} (h : DInv N d wl) {s : Bool} {x' : EndV} {es : List Ev} (ha : Act (N s + 500000) (d.x s) x' es) (hc : ∀ e ∈ es, e.kind = 4 → e.pk ∈ sents (d.x (!s)).es) : DInv (up N s (N s + 500000)) { d with x := up d.x s x' } (wl ++ es.map fun e => (sI s, e)) := by
 have oth : ∀ {α : Type} (f : Bool → α) (y : α) {t : Bool}, t ≠ s → up f s y t = f t := fun {α} f y {t} ht => up_other f y ht
 refine ⟨fun t => ?_, fun t => ?_, Caus.append (sI s) es h.c (fun e he h4 => ?_), h.t.append (sI_two s) es, fun t y hy => ?_, h.nl, fun t p hp => ?_, fun t => ?_, fun t e he => ?_⟩
 ·by_cases ht : t = s
  ·subst ht
   show EOk (up N t _ t) (up d.x t x' t)
   rw [up_same, up_same]
   exact ha.ok
  ·show EOk (up N s _ t) (up d.x s x' t)
   rw [oth _ _ ht, oth _ _ ht]
   exact h.ok t
 ·show only (sI t) _ = (up d.x s x' t).es
  rw [only_app, only_map, h.es t]
  by_cases ht : t = s
  ·subst ht
   rw [up_same, if_pos rfl, ha.es]
  ·rw [oth _ _ ht, if_neg ht, List.append_nil]
 ·obtain ⟨f, h1, h2, h3⟩ := sents_mem (hc e he h4)
  rw [← h.es, sI_not] at h1
  exact ⟨f, only_mem h1, h2, h3⟩
 ·show NOk (sents (up d.x s x' (!t)).es) y
  by_cases ht : (!t) = s
  ·rw [ht, up_same]
   have h1 := h.net t y hy
   rw [ht] at h1
   exact h1.mono (fun p hp => by rw [ha.es, sents_app]; exact List.mem_append_left _ hp)
  ·rw [oth _ _ ht]
   exact h.net t y hy
 ·have hp' : p ∈ (up d.x s x' t).outs := hp
  show p ∈ sents (up d.x s x' t).es
  by_cases ht : t = s
  ·subst ht
   rw [up_same] at hp' ⊢
   rw [ha.outs] at hp'
   rw [ha.es, sents_app]
   rcases List.mem_append.1 hp' with h1 | h1
   ·exact List.mem_append_left _ (h.out t p h1)
   ·exact List.mem_append_right _ h1
  ·rw [oth _ _ ht] at hp' ⊢
   exact h.out t p hp'
 ·show (d.g t).length ≤ up N s _ t
  have := h.gl t
  by_cases ht : t = s
  ·subst ht
   rw [up_same]
   omega
  ·rw [oth _ _ ht]
   exact this
 ·have he' : e ∈ (up d.x s x' t).es := he
  by_cases ht : t = s
  ·subst ht
   rw [up_same, ha.es] at he'
   rcases List.mem_append.1 he' with h1 | h1
   ·exact h.sm t e h1
   ·exact ha.sm e h1
  ·rw [oth _ _ ht] at he'
   exact h.sm t e he'
theorem DInv.upN {N M : Bool → Nat} {d : DuV} {wl : List (Int × Ev)} (h : DInv N d wl) (hM : ∀ s, N s ≤ M s ∧ M s ≤ 40000000) : DInv M d wl :=
 ⟨fun s => (h.ok s).up (hM s).1 (hM s).2, h.es, h.c, h.t, h.net, h.nl, h.out, fun s => Nat.le_trans (h.gl s) (hM s).1, h.sm⟩
/-- What is under way is something else. -/
theorem DInv.netw {N : Bool → Nat} {d : DuV} {wl : List (Int × Ev)} (h : DInv N d wl) {s : Bool} {l' : List By2} (v : Bool → Value) (hl : l'.length ≤ 200) (hn : ∀ y ∈ l', NOk (sents (d.x (!s)).es) y) : DInv N { d with v := v, l := up d.l s l' } wl := by
 refine ⟨h.ok, h.es, h.c, h.t, fun t y hy => ?_, fun t => ?_, h.out, h.gl, h.sm⟩
 ·have hy' : y ∈ up d.l s l' t := hy
  by_cases ht : t = s
  ·subst ht
   rw [up_same] at hy'
   exact hn y hy'
  ·rw [up_other _ _ ht] at hy'
   exact h.net t y hy'
 ·show (up d.l s l' t).length ≤ 200
  by_cases ht : t = s
  ·subst ht
   rw [up_same]
   exact hl
  ·rw [up_other _ _ ht]
   exact h.nl t
theorem DInv.gotw {N : Bool → Nat} {d : DuV} {wl : List (Int × Ev)} (h : DInv N d wl) {s : Bool} {g' : List Int} (u : Bool → Value) (hl : g'.length ≤ N s) : DInv N { d with u := u, g := up d.g s g' } wl := by
 refine ⟨h.ok, h.es, h.c, h.t, h.net, h.nl, h.out, fun t => ?_, h.sm⟩
 show (up d.g s g' t).length ≤ N t
 by_cases ht : t = s
 ·subst ht
  rw [up_same]
  exact hl
 ·rw [up_other _ _ ht]
  exact h.gl t
end
end Go.Proofs.YtdneakejlbabeaaGreat
