/- Parts of the walk: Er, Pa, Fe, Ff. -/
import Derived.Test.YtdneakejlbabeaaGreatM22
import Derived.Test.YtdneakejlbabeaaGreatM13
import Derived.Test.YtdneakejlbabeaaGreatM11
import Derived.Test.YtdneakejlbabeaaGreatM02
namespace Go.Proofs.YtdneakejlbabeaaGreat
open Go.RowKit
set_option linter.unusedVariables false
set_option linter.unusedSimpArgs false
attribute [local go_sem] run_max2' run_min2' run_max_ run_min_

theorem openL_some {l x : List Int} (h : openL l = some x) : l = sealL x := by
  unfold openL at h
  split at h
  · cases h
  · split at h
    · rename_i h2
      injection h with h
      rw [← h]
      exact h2.symm
    · cases h
theorem BV.alloc {w : World} {S : Nat → Prop} {v : Value} {l : List Int} (h : BV w S v l) (o : Obj) : BV (w.alloc o) S v l := h.below ((Below.refl _ _).alloc (Nat.le_refl _) _)
def UnpR (w : World) (l : List Int) (e : Ending) (w' : World) : Prop :=
  ∃ (p : Pk) (vd : Value) (q : Bool), e = .returned (.tuple #[pagg p vd, .bool q]) ∧ BV w' (fun j => w.heap.size ≤ j) vd p.data ∧ p.data.length ≤ l.length ∧ (q = true → RightP p p.data.length ∧ l = sealL (plainL p)) ∧ Below w.heap.size w w'
theorem unp_end {w W : World} {l : List Int} {gr : Nat} (hb : Below w.heap.size w W) (hg : w.heap.size ≤ gr) (p : Pk) (vd : Value) (q : Bool) (hd : BV W (fun j => w.heap.size ≤ j ∧ j ≠ gr) vd p.data) (hdl : p.data.length ≤ l.length) (hq : q = true → RightP p p.data.length ∧ l = sealL (plainL p)) (u0 u1 u2 u3 u4 u5 u6 u7 u8 : Value) :
    UnpR w l (.returned (.tuple #[pagg p vd, .bool q])) (fill9 W gr u0 u1 u2 u3 u4 u5 u6 u7 u8) := by
  have f := fill9_frm W gr u0 u1 u2 u3 u4 u5 u6 u7 u8
  exact ⟨p, vd, q, rfl, (hd.frm f (fun j hj => hj.2)).mono (fun j hj _ => hj.1), hdl, hq, Frm.below hb f hb.size (fun i hi => hi ▸ hg)⟩
set_option maxHeartbeats 8000000 in
set_option maxRecDepth 100000 in
theorem unpack_any (w : World) (S : Nat → Prop) (v : Value) (l : List Int) (h : BV w S v l) (hl : l.length ≤ 1000000) :
    Calls Tryz.prog 46 #[v] w fun e w' => UnpR w l e w' := by
  have H := Lib.hid h
  clear h
  go_enter Tryz.func46, Tryz.ntmps46
  go_wp2_with fail
  obtain ⟨w0, hw0⟩ : ∃ W, W = w.alloc (.cells #[.int .i64 0, .int .i64 0, .int .i64 0, .int .i64 0, .int .i64 0, .slice none 0 0, .bool false, .int .i64 0, .int .i64 0] 27) := ⟨_, rfl⟩
  obtain ⟨gr, hgr⟩ : ∃ h, h = w.heap.size := ⟨_, rfl⟩
  have BR : Hid (Blk w0 gr #[.int .i64 0, .int .i64 0, .int .i64 0, .int .i64 0, .int .i64 0, .slice none 0 0, .bool false, .int .i64 0, .int .i64 0] 27) := Lib.hid (by rw [hw0, hgr]; exact Blk.new _ _ _)
  have BW : Hid (Below w.heap.size w w0) := Lib.hid (by rw [hw0]; exact (Below.refl _ _).alloc (Nat.le_refl _) _)
  have sgr : w.heap.size ≤ gr := by omega
  have grl0 : gr < w0.heap.size := BR.out.lt
  rw [← hw0, ← hgr]
  clear hw0 hgr
  refine (open_any w0 S v l (H.out.below BW.out) hl).mono ?_
  rintro e w1 ⟨v1, rfl, ho, hb⟩
  have B1 := Lib.hid (Below.on' BW.out (Nat.le_refl _) hb)
  have R1 := Lib.hid (BR.out.below hb)
  have s1 : w0.heap.size ≤ w1.heap.size := hb.size
  rcases hx : openL l with _ | x
  · rw [hx] at ho
    rw [show (none : Option (List Int)).isSome = false from rfl]
    clear ho hb
    have zc0 := R1.out.cell 0
    have zc1 := R1.out.cell 1
    have zc2 := R1.out.cell 2
    have zc3 := R1.out.cell 3
    have zc4 := R1.out.cell 4
    have zc5 := R1.out.cell 5
    have zc6 := R1.out.cell 6
    have zc7 := R1.out.cell 7
    have zc8 := R1.out.cell 8
    have zf0 := R1.out.free 0
    have zf1 := R1.out.free 1
    have zf2 := R1.out.free 2
    have zf3 := R1.out.free 3
    have zf4 := R1.out.free 4
    have zf5 := R1.out.free 5
    have zf6 := R1.out.free 6
    have zf7 := R1.out.free 7
    have zf8 := R1.out.free 8
    simp only [List.getElem?_toArray, List.getElem?_cons_zero, List.getElem?_cons_succ] at zc0 zc1 zc2 zc3 zc4 zc5 zc6 zc7 zc8
    go_wp2_with fail
    refine bodyPost_ret (results_crt rfl _ (fill9 w1 gr (.int .i64 0) (.int .i64 0) (.int .i64 0) (.int .i64 0) (.int .i64 0) (.slice none 0 0) (.bool false) (.int .i64 0) (.int .i64 0)) gr 27 _ (0, 0) _ rfl (fill9_blk R1.out (.int .i64 0) (.int .i64 0) (.int .i64 0) (.int .i64 0) (.int .i64 0) (.slice none 0 0) (.bool false) (.int .i64 0) (.int .i64 0)) Tryz.underlying27 rfl Tryz.size27) rfl ?_
    exact unp_end B1.out sgr ⟨0, 0, 0, 0, 0, [], false, 0, 0⟩ (.slice none 0 0) false (BV.nil _ _) (Nat.zero_le _) (fun h => by cases h) (.int .i64 0) (.int .i64 0) (.int .i64 0) (.int .i64 0) (.int .i64 0) (.slice none 0 0) (.bool false) (.int .i64 0) (.int .i64 0)
  · rw [hx] at ho
    rw [show (some x : Option (List Int)).isSome = true from rfl]
    have hlx := openL_some hx
    have hxl : x.length ≤ l.length := by rw [hlx, sealL_len]; omega
    have HX := Lib.hid hlx
    have O1 : Hid (BO w0.heap.size w1 v1 x) := Lib.hid ho
    obtain ⟨A1, c1, rfl⟩ := own_slice' ho.1
    simp only [Option.getD_some]
    clear ho hb hx hlx
    go_wp2_with fail
    obtain ⟨w2, hw2⟩ : ∃ W, W = w1.alloc (.cells #[.slice A1 x.length c1, .int .i64 0, .bool false] 145) := ⟨_, rfl⟩
    obtain ⟨g, hg⟩ : ∃ h, h = w1.heap.size := ⟨_, rfl⟩
    have B2 : Below w1.heap.size w1 w2 := by rw [hw2]; exact (Below.refl _ _).alloc (Nat.le_refl _) _
    have RD : Hid (RdC w2 g (.slice A1 x.length c1) 0 false) := Lib.hid (by rw [hw2, hg]; exact Blk.new _ _ _)
    have V2 : Hid (BV w2 (fun j => w0.heap.size ≤ j ∧ j < w1.heap.size) (.slice A1 x.length c1) x) := Lib.hid ((O1.out.bv.mono (fun j hj hlt => ⟨hj, hlt⟩)).below B2)
    have BB2 := Lib.hid (Below.on' B1.out (Nat.le_refl _) B2)
    have R2 := Lib.hid (R1.out.below B2)
    have sg : g = w1.heap.size := hg
    have SG := Lib.hid hg
    have s2 := B2.size
    rw [← hw2, ← hg]
    clear hw2 B2 hg sg
    have gw : w0.heap.size ≤ g := by rw [SG.out]; exact s1
    refine (takepacket_any w2 g _ x _ 0 false RD.out V2.out (fun j hj e => by have := hj.2; rw [← SG.out] at this; omega) (Nat.zero_le _) (by omega)).mono ?_
    rintro e w3 ⟨p, vd, a', b', q, rfl, hd, hdl, hq, hrd, ha1, ha2, hf⟩
    have B3 : Hid (Below w.heap.size w w3) := Lib.hid (Frm.below BB2.out hf BB2.out.size (fun i hi => by subst hi; have := BW.out.size; omega))
    have R3 := Lib.hid (R2.out.frm hf (by omega))
    have D3 := Lib.hid hd
    have DL := Lib.hid hdl
    have HQ := Lib.hid hq
    have RD3 := Lib.hid hrd
    have s3 := hf.size
    obtain ⟨Ad, cd, rfl, _, _⟩ := hd.len
    clear hd hq hrd hf hdl
    have r1 := RD3.out.cell 1
    simp only [List.getElem?_toArray, List.getElem?_cons_zero, List.getElem?_cons_succ] at r1
    have r4 := cell_in_alloc' r1 (.cells #[.int .i64 p.kind, .int .i64 p.path, .int .i64 p.number, .int .i64 p.of_, .int .i64 p.from_, .slice Ad p.data.length cd, .bool p.fin, .int .i64 p.seen, .int .i64 p.limit] 27)
    have R4 : Hid (Blk (w3.alloc (.cells #[.int .i64 p.kind, .int .i64 p.path, .int .i64 p.number, .int .i64 p.of_, .int .i64 p.from_, .slice Ad p.data.length cd, .bool p.fin, .int .i64 p.seen, .int .i64 p.limit] 27)) gr #[.int .i64 0, .int .i64 0, .int .i64 0, .int .i64 0, .int .i64 0, .slice none 0 0, .bool false, .int .i64 0, .int .i64 0] 27) := Lib.hid (R3.out.alloc _)
    have B4 : Hid (Below w.heap.size w (w3.alloc (.cells #[.int .i64 p.kind, .int .i64 p.path, .int .i64 p.number, .int .i64 p.of_, .int .i64 p.from_, .slice Ad p.data.length cd, .bool p.fin, .int .i64 p.seen, .int .i64 p.limit] 27))) := Lib.hid (B3.out.alloc B3.out.size _)
    have zc0 := R4.out.cell 0
    have zc1 := R4.out.cell 1
    have zc2 := R4.out.cell 2
    have zc3 := R4.out.cell 3
    have zc4 := R4.out.cell 4
    have zc5 := R4.out.cell 5
    have zc6 := R4.out.cell 6
    have zc7 := R4.out.cell 7
    have zc8 := R4.out.cell 8
    have zf0 := R4.out.free 0
    have zf1 := R4.out.free 1
    have zf2 := R4.out.free 2
    have zf3 := R4.out.free 3
    have zf4 := R4.out.free 4
    have zf5 := R4.out.free 5
    have zf6 := R4.out.free 6
    have zf7 := R4.out.free 7
    have zf8 := R4.out.free 8
    simp only [List.getElem?_toArray, List.getElem?_cons_zero, List.getElem?_cons_succ] at zc0 zc1 zc2 zc3 zc4 zc5 zc6 zc7 zc8
    cases q
    · go_wp2_with fail
      refine bodyPost_ret (results_crt rfl _ (fill9 (w3.alloc (.cells #[.int .i64 p.kind, .int .i64 p.path, .int .i64 p.number, .int .i64 p.of_, .int .i64 p.from_, .slice Ad p.data.length cd, .bool p.fin, .int .i64 p.seen, .int .i64 p.limit] 27)) gr (.int .i64 0) (.int .i64 0) (.int .i64 0) (.int .i64 0) (.int .i64 0) (.slice none 0 0) (.bool false) (.int .i64 0) (.int .i64 0)) gr 27 _ (0, 0) _ rfl (fill9_blk R4.out (.int .i64 0) (.int .i64 0) (.int .i64 0) (.int .i64 0) (.int .i64 0) (.slice none 0 0) (.bool false) (.int .i64 0) (.int .i64 0)) Tryz.underlying27 rfl Tryz.size27) rfl ?_
      exact unp_end B4.out sgr ⟨0, 0, 0, 0, 0, [], false, 0, 0⟩ (.slice none 0 0) false (BV.nil _ _) (Nat.zero_le _) (fun h => by cases h) (.int .i64 0) (.int .i64 0) (.int .i64 0) (.int .i64 0) (.int .i64 0) (.slice none 0 0) (.bool false) (.int .i64 0) (.int .i64 0)
    · by_cases hal : a' = x.length
      · have hab : (((a' : Nat) : Int) == (x.length : Int)) = true := by rw [beq_iff_eq]; omega
        have hyes := HQ.out rfl
        rw [hal, Nat.sub_zero, List.drop_zero, List.take_length] at hyes
        have HY := Lib.hid hyes
        clear hyes hal
        go_wp2_with fail
        refine bodyPost_ret (results_crt rfl _ (fill9 (w3.alloc (.cells #[.int .i64 p.kind, .int .i64 p.path, .int .i64 p.number, .int .i64 p.of_, .int .i64 p.from_, .slice Ad p.data.length cd, .bool p.fin, .int .i64 p.seen, .int .i64 p.limit] 27)) gr (.int .i64 p.kind) (.int .i64 p.path) (.int .i64 p.number) (.int .i64 p.of_) (.int .i64 p.from_) (.slice Ad p.data.length cd) (.bool p.fin) (.int .i64 p.seen) (.int .i64 p.limit)) gr 27 _ (0, 0) _ rfl (fill9_blk R4.out (.int .i64 p.kind) (.int .i64 p.path) (.int .i64 p.number) (.int .i64 p.of_) (.int .i64 p.from_) (.slice Ad p.data.length cd) (.bool p.fin) (.int .i64 p.seen) (.int .i64 p.limit)) Tryz.underlying27 rfl Tryz.size27) rfl ?_
        refine unp_end B4.out sgr p (.slice Ad p.data.length cd) true ((D3.out.mono (fun j hj hlt => ?_)).alloc _) (Nat.le_trans DL.out hxl) (fun _ => ⟨HY.out.1, by rw [HY.out.2]; exact HX.out⟩) (.int .i64 p.kind) (.int .i64 p.path) (.int .i64 p.number) (.int .i64 p.of_) (.int .i64 p.from_) (.slice Ad p.data.length cd) (.bool p.fin) (.int .i64 p.seen) (.int .i64 p.limit)
        have := BW.out.size
        exact ⟨by omega, by omega⟩
      · have hab : (((a' : Nat) : Int) == (x.length : Int)) = false := by rw [beq_eq_false_iff_ne]; omega
        clear hal
        go_wp2_with fail
        refine bodyPost_ret (results_crt rfl _ (fill9 (w3.alloc (.cells #[.int .i64 p.kind, .int .i64 p.path, .int .i64 p.number, .int .i64 p.of_, .int .i64 p.from_, .slice Ad p.data.length cd, .bool p.fin, .int .i64 p.seen, .int .i64 p.limit] 27)) gr (.int .i64 0) (.int .i64 0) (.int .i64 0) (.int .i64 0) (.int .i64 0) (.slice none 0 0) (.bool false) (.int .i64 0) (.int .i64 0)) gr 27 _ (0, 0) _ rfl (fill9_blk R4.out (.int .i64 0) (.int .i64 0) (.int .i64 0) (.int .i64 0) (.int .i64 0) (.slice none 0 0) (.bool false) (.int .i64 0) (.int .i64 0)) Tryz.underlying27 rfl Tryz.size27) rfl ?_
        exact unp_end B4.out sgr ⟨0, 0, 0, 0, 0, [], false, 0, 0⟩ (.slice none 0 0) false (BV.nil _ _) (Nat.zero_le _) (fun h => by cases h) (.int .i64 0) (.int .i64 0) (.int .i64 0) (.int .i64 0) (.int .i64 0) (.slice none 0 0) (.bool false) (.int .i64 0) (.int .i64 0)
end Go.Proofs.YtdneakejlbabeaaGreat

namespace Go.Proofs.YtdneakejlbabeaaGreat
set_option linter.unusedVariables false
set_option linter.unusedSimpArgs false

/-! ### The sum of bits is linear -/
theorem xor_shuf (a b c d : Nat) : (a ^^^ b) ^^^ (c ^^^ d) = (a ^^^ c) ^^^ (b ^^^ d) := by
  rw [Nat.xor_assoc, Nat.xor_assoc]
  congr 1
  rw [← Nat.xor_assoc, ← Nat.xor_assoc, Nat.xor_comm b c]
theorem xor_zero_eq {a b : Nat} (h : a ^^^ b = 0) : a = b := by
  have : a ^^^ b ^^^ b = b := by rw [h, Nat.zero_xor]
  rwa [Nat.xor_assoc, Nat.xor_self, Nat.xor_zero] at this
theorem crcBit_xor (a b : Nat) : crcBit (a ^^^ b) = crcBit a ^^^ crcBit b := by
  have h2 : (a ^^^ b) % 2 = (a % 2) ^^^ (b % 2) := by
    have := @Nat.xor_mod_two_pow a b 1
    simpa using this
  unfold crcBit
  rw [Nat.xor_div_two]
  rcases Nat.mod_two_eq_zero_or_one a with ha | ha <;> rcases Nat.mod_two_eq_zero_or_one b with hb | hb
  · rw [h2, ha, hb, if_neg (by decide), if_neg (by decide), if_neg (by decide)]
  · rw [h2, ha, hb, if_pos (by decide), if_neg (by decide), if_pos (by decide), Nat.xor_assoc]
  · rw [h2, ha, hb, if_pos (by decide), if_pos (by decide), if_neg (by decide), Nat.xor_assoc, Nat.xor_assoc, Nat.xor_comm 3988292384]
  · rw [h2, ha, hb, if_neg (by decide), if_pos (by decide), if_pos (by decide), xor_shuf, Nat.xor_self, Nat.xor_zero]
theorem crcIt_xor (a b : Nat) : ∀ k, crcIt k (a ^^^ b) = crcIt k a ^^^ crcIt k b
  | 0 => rfl
  | k + 1 => by rw [crcIt, crcIt_xor a b k, crcBit_xor]; rfl
theorem crcBit_two (y : Nat) : crcBit (2 * y) = y := by unfold crcBit; rw [if_neg (by omega)]; omega
theorem crcIt_add (a s : Nat) : ∀ b, crcIt (b + a) s = crcIt b (crcIt a s)
  | 0 => by rw [Nat.zero_add]; rfl
  | b + 1 => by rw [show b + 1 + a = (b + a) + 1 from by omega, crcIt, crcIt_add a s b]; rfl
theorem crcIt_pow (k y : Nat) : crcIt k (2 ^ k * y) = y := by
  induction k generalizing y with
  | zero => simp [crcIt]
  | succ k ih =>
    rw [crcIt, show 2 ^ (k + 1) * y = 2 ^ k * (2 * y) from by rw [Nat.pow_succ]; simp [Nat.mul_assoc], ih, crcBit_two]
theorem crcBit_ne {s : Nat} (h : s < 4294967296) (h0 : s ≠ 0) : crcBit s ≠ 0 ∧ crcBit s < 4294967296 := by
  refine ⟨?_, crcBit_lt h⟩
  unfold crcBit
  split
  · intro e
    have := xor_zero_eq e
    omega
  · omega
theorem crcIt_ne {s : Nat} (h : s < 4294967296) (h0 : s ≠ 0) : ∀ k, crcIt k s ≠ 0 ∧ crcIt k s < 4294967296
  | 0 => ⟨h0, h⟩
  | k + 1 => crcBit_ne (crcIt_ne h h0 k).2 (crcIt_ne h h0 k).1

/-! ### Bytes as one number -/
def vN : List Int → Nat
  | [] => 0
  | x :: l => x.toNat ^^^ (256 * vN l)
theorem mul_xor (a b : Nat) : 256 * (a ^^^ b) = 256 * a ^^^ 256 * b := by
  have := Nat.shiftLeft_xor_distrib (a := a) (b := b) (i := 8)
  simpa [Nat.shiftLeft_eq, Nat.mul_comm] using this
theorem low_xor {x y : Nat} (hx : x < 256) : (x ^^^ 256 * y) % 256 = x ∧ (x ^^^ 256 * y) / 256 = y := by
  have h1 := @Nat.xor_mod_two_pow x (256 * y) 8
  have h2 := Nat.shiftRight_xor_distrib (a := x) (b := 256 * y) (i := 8)
  simp only [Nat.shiftRight_eq_div_pow, show (2 : Nat) ^ 8 = 256 from rfl, Nat.mul_mod_right, Nat.xor_zero, Nat.mod_eq_of_lt hx, Nat.mul_div_cancel_left y (show 0 < 256 by omega), Nat.div_eq_of_lt hx, Nat.zero_xor] at h1 h2
  exact ⟨h1, h2⟩
theorem vN_inj : ∀ (a b : List Int), a.length = b.length → Byt a → Byt b → vN a = vN b → a = b
  | [], [], _, _, _, _ => rfl
  | x :: a, y :: b, hl, ha, hb, h => by
    have hx := ha x (by simp)
    have hy := hb y (by simp)
    have hx' : x.toNat < 256 := by omega
    have hy' : y.toNat < 256 := by omega
    unfold vN at h
    have e1 := (low_xor (y := vN a) hx').1
    have e2 := (low_xor (y := vN a) hx').2
    rw [h, (low_xor hy').1] at e1
    rw [h, (low_xor hy').2] at e2
    rw [vN_inj a b (by simpa using hl) (fun z hz => ha z (by simp [hz])) (fun z hz => hb z (by simp [hz])) e2.symm, show x = y from by omega]
  | [], _ :: _, h, _, _, _ => by simp at h
  | _ :: _, [], h, _, _, _ => by simp at h
theorem crcUp_vN : ∀ (l : List Int) (s : Nat), crcUp s l = crcIt (8 * l.length) (s ^^^ vN l)
  | [], s => by simp [crcUp, vN, crcIt]
  | x :: l, s => by
    have e : crcUp s (x :: l) = crcUp (crcIt 8 (s ^^^ x.toNat)) l := rfl
    have e3 := crcIt_pow 8 (vN l)
    rw [show (2 : Nat) ^ 8 = 256 from rfl] at e3
    rw [e, crcUp_vN l, vN, List.length_cons, show 8 * (l.length + 1) = 8 * l.length + 8 from by omega, crcIt_add, ← Nat.xor_assoc, crcIt_xor _ (256 * vN l), e3]
theorem xor_cast {x : Int} (h : 0 ≤ x ∧ x < 256) {r : Nat} (hr : r < 8) : (bits .xor .u8 x ((2 : Int) ^ r % 256)).toNat = x.toNat ^^^ 2 ^ r := by
  obtain ⟨n, rfl⟩ : ∃ n : Nat, x = n := ⟨x.toNat, by omega⟩
  have h2 : (2 : Nat) ^ r < 256 := by have : (2 : Nat) ^ r < 2 ^ 8 := Nat.pow_lt_pow_right (by omega) hr; omega
  rw [two_pow_mod r hr, bits_xor_u8 n _ (by omega) h2]
  rfl
theorem vN_set : ∀ (l : List Int) (i r : Nat), Byt l → i < l.length → r < 8 → vN (l.set i (bits .xor .u8 (l.getD i 0) ((2 : Int) ^ r % 256))) = vN l ^^^ 2 ^ (8 * i + r)
  | x :: l, 0, r, hb, _, hr => by
    have hx := hb x (by simp)
    simp only [List.set_cons_zero, List.getD_cons_zero, vN]
    rw [xor_cast hx hr, Nat.xor_assoc, Nat.xor_comm (2 ^ r), ← Nat.xor_assoc, Nat.mul_zero, Nat.zero_add]
  | x :: l, i + 1, r, hb, hi, hr => by
    simp only [List.set_cons_succ, List.getD_cons_succ, vN]
    rw [vN_set l i r (fun z hz => hb z (by simp [hz])) (by simpa using hi) hr, mul_xor, ← Nat.xor_assoc, show 256 * 2 ^ (8 * i + r) = 2 ^ (8 * (i + 1) + r) from by rw [show 8 * (i + 1) + r = 8 + (8 * i + r) from by omega, Nat.pow_add 2 8]]
  | [], _, _, _, h, _ => by simp at h
theorem byt_flip {l : List Int} (h : Byt l) (p : Nat) (hp : p < 8 * l.length) : Byt (flipI l p) ∧ vN (flipI l p) = vN l ^^^ 2 ^ p := by
  have h8 : p / 8 < l.length := by omega
  have hr : p % 8 < 8 := Nat.mod_lt _ (by omega)
  have hx : 0 ≤ l.getD (p / 8) 0 ∧ l.getD (p / 8) 0 < 256 := by
    rw [List.getD_eq_getElem?_getD, List.getElem?_eq_getElem h8]
    exact h _ (List.getElem_mem h8)
  refine ⟨fun y hy => ?_, ?_⟩
  · unfold flipI at hy
    rcases List.mem_or_eq_of_mem_set hy with h1 | h1
    · exact h y h1
    · rw [h1]; exact xor_byte hx hr
  · unfold flipI
    rw [vN_set l (p / 8) (p % 8) h h8 hr, show 8 * (p / 8) + p % 8 = p from by omega]
/-- What spoiling turns. -/
theorem spI_vN (bit mask : Int) (l : List Int) (hb : Byt l) (b : Nat) (hbb : bit ≤ (b : Int)) (hb0 : (b : Int) = bit ∨ (b = 0 ∧ bit ≤ 0)) : ∀ k : Nat, Byt (spI bit mask l k) ∧ ∃ E, vN (spI bit mask l k) = vN l ^^^ E ∧ E < 2 ^ (bit + k).toNat ∧ ∃ d, E = 2 ^ b * d
  | 0 => ⟨hb, 0, by simp [spI], Nat.two_pow_pos _, 0, by simp⟩
  | k + 1 => by
    obtain ⟨h1, E, h2, h3, d, h4⟩ := spI_vN bit mask l hb b hbb hb0 k
    have hm : ∀ n m : Nat, n ≤ m → (2 : Nat) ^ n ≤ 2 ^ m := fun n m h => Nat.pow_le_pow_right (by omega) h
    unfold spI
    split
    · rename_i hc
      obtain ⟨_, c1, c2⟩ := hc
      have hl := spI_len bit mask l k
      obtain ⟨g1, g2⟩ := byt_flip h1 (bit + k).toNat (by rw [hl]; omega)
      have h5 : E ^^^ 2 ^ (bit + k).toNat = E + 2 ^ (bit + k).toNat := by
        apply Nat.eq_of_testBit_eq
        intro j
        rw [show E + 2 ^ (bit + k).toNat = 2 ^ (bit + k).toNat * 1 + E from by omega, Nat.testBit_two_pow_mul_add _ h3, Nat.testBit_xor, Nat.testBit_two_pow]
        split
        · rw [decide_eq_false (by omega), Bool.xor_false]
        · rw [Nat.testBit_lt_two_pow (Nat.lt_of_lt_of_le h3 (hm _ _ (by omega))), Bool.false_xor]
          by_cases hj : (bit + k).toNat = j
          · subst hj; simp
          · rw [decide_eq_false hj, Nat.testBit_lt_two_pow (Nat.lt_of_lt_of_le (show 1 < 2 ^ 1 by omega) (hm _ _ (by omega)))]
      refine ⟨g1, E ^^^ 2 ^ (bit + k).toNat, by rw [g2, h2, Nat.xor_assoc], ?_, ?_⟩
      · rw [h5, show (bit + ((k + 1 : Nat) : Int)).toNat = (bit + k).toNat + 1 from by omega, Nat.pow_succ]
        omega
      · refine ⟨d + 2 ^ ((bit + k).toNat - b), ?_⟩
        rw [h5, h4, Nat.mul_add, ← Nat.pow_add, show b + ((bit + k).toNat - b) = (bit + k).toNat from by omega]
    · exact ⟨h1, E, h2, Nat.lt_of_lt_of_le h3 (hm _ _ (by omega)), d, h4⟩
/-- The sum of a sealed text is always one. -/
theorem sealed_up {x : List Int} (hx : Byt x) : crcUp 4294967295 (sealL x) = crcIt 32 4294967295 := by
  unfold sealL
  have hc := crcL_lt hx
  have e : ∀ (a b : List Int) (s : Nat), crcUp s (a ++ b) = crcUp (crcUp s a) b := fun a b s => by simp [crcUp, List.foldl_append]
  rw [e, crcUp_vN]
  have hu : crcUp 4294967295 x = crcL x ^^^ 4294967295 := by unfold crcL; rw [Nat.xor_assoc, Nat.xor_self, Nat.xor_zero]
  generalize hcc : crcL x = c at *
  have hv : vN [((c : Nat) : Int) % 256, ((c : Nat) : Int) / 256 % 256, ((c : Nat) : Int) / 65536 % 256, ((c : Nat) : Int) / 16777216] = c := by
    simp only [vN]
    have h4 : (((c : Nat) : Int) / 16777216).toNat = c / 16777216 := by omega
    have h3 : (((c : Nat) : Int) / 65536 % 256).toNat = c / 65536 % 256 := by omega
    have h2 : (((c : Nat) : Int) / 256 % 256).toNat = c / 256 % 256 := by omega
    have h1 : (((c : Nat) : Int) % 256).toNat = c % 256 := by omega
    have ad : ∀ {x y : Nat}, x < 256 → x ^^^ 256 * y = x + 256 * y := fun {x y} h => by
      have := low_xor (y := y) h
      have := Nat.div_add_mod (x ^^^ 256 * y) 256
      omega
    rw [h1, h2, h3, h4, Nat.mul_zero, Nat.xor_zero, ad (Nat.mod_lt _ (by omega)), ad (Nat.mod_lt _ (by omega)), ad (Nat.mod_lt _ (by omega))]
    omega
  rw [hv, hu, Nat.xor_assoc, Nat.xor_comm 4294967295, ← Nat.xor_assoc, Nat.xor_self, Nat.zero_xor]
  rfl
theorem byt_left {a b : List Int} (h : Byt (a ++ b)) : Byt a := fun x hx => h x (List.mem_append_left _ hx)
/-- A spoilt seal is no seal. -/
theorem seal_burst {x y : List Int} {bit mask : Int} (hx : Byt (sealL x)) (hy : Byt (sealL y)) (h : spoilL bit mask (sealL y) = sealL x) : sealL x = sealL y := by
  have hbx : Byt x := byt_left hx
  have hby : Byt y := byt_left hy
  have hlen : (sealL x).length = (sealL y).length := by rw [← h, spoilL_len]
  unfold spoilL at h
  split at h
  · exact h.symm
  · rename_i hc
    obtain ⟨_, E, h2, h3, d, h4⟩ := spI_vN bit mask (sealL y) hy bit.toNat (by omega) (by omega) 32
    rw [h] at h2
    have e1 := sealed_up hbx
    have e2 := sealed_up hby
    rw [crcUp_vN] at e1 e2
    rw [h2, ← Nat.xor_assoc, crcIt_xor, hlen, e2] at e1
    have e3 : crcIt (8 * (sealL y).length) E = 0 := by
      have := congrArg (crcIt 32 4294967295 ^^^ ·) e1
      simp only [← Nat.xor_assoc, Nat.xor_self, Nat.zero_xor] at this
      exact this
    have hbl : bit.toNat ≤ 8 * (sealL y).length := by omega
    rw [h4, show 8 * (sealL y).length = (8 * (sealL y).length - bit.toNat) + bit.toNat from by omega, crcIt_add, crcIt_pow] at e3
    have hd : d < 4294967296 := by
      have hp : E < 2 ^ bit.toNat * 2 ^ 32 := by
        rw [← Nat.pow_add]
        exact Nat.lt_of_lt_of_le h3 (Nat.pow_le_pow_right (by omega) (by omega))
      rw [h4] at hp
      have := Nat.lt_of_mul_lt_mul_left hp
      omega
    have hd0 : d = 0 := Classical.byContradiction fun h0 => (crcIt_ne hd h0 _).1 e3
    rw [h4, hd0, Nat.mul_zero, Nat.xor_zero] at h2
    exact vN_inj _ _ hlen hx hy h2
/-! ### A packet's bytes tell it -/
theorem putN_app {n m : Int} {r s : List Int} (hn : 0 ≤ n ∧ n < 1073741824) (hm : 0 ≤ m ∧ m < 1073741824) (h : putN n ++ r = putN m ++ s) : n = m ∧ r = s := by
  unfold putN at h
  split at h
  · split at h
    · simpa using h
    · split at h
      · simp only [List.cons_append, List.cons.injEq, List.nil_append] at h; omega
      · simp only [List.cons_append, List.cons.injEq, List.nil_append] at h; omega
  · split at h
    · split at h
      · simp only [List.cons_append, List.cons.injEq, List.nil_append] at h; omega
      · split at h
        · simp only [List.cons_append, List.cons.injEq, List.nil_append] at h; exact ⟨by omega, h.2.2⟩
        · simp only [List.cons_append, List.cons.injEq, List.nil_append] at h; omega
    · split at h
      · simp only [List.cons_append, List.cons.injEq, List.nil_append] at h; omega
      · split at h
        · simp only [List.cons_append, List.cons.injEq, List.nil_append] at h; omega
        · simp only [List.cons_append, List.cons.injEq, List.nil_append] at h; exact ⟨by omega, h.2.2.2.2⟩
theorem putN_one {n m : Int} (hn : 0 ≤ n ∧ n < 1073741824) (hm : 0 ≤ m ∧ m < 1073741824) (h : putN n = putN m) : n = m :=
  (putN_app (r := []) (s := []) hn hm (by rw [h])).1
theorem plain_inj {p q : Pk} (hp : RightP p p.data.length) (hq : RightP q q.data.length) (h : plainL p = plainL q) : p = q := by
  unfold plainL at h
  simp only [List.append_assoc, List.cons_append, List.nil_append, List.cons.injEq] at h
  obtain ⟨hk, h⟩ := h
  have p1 := hp.path
  have q1 := hq.path
  have p2 := hp.number
  have q2 := hq.number
  obtain ⟨e1, h⟩ := putN_app (by omega) (by omega) h
  obtain ⟨e2, h⟩ := putN_app (by omega) (by omega) h
  rw [← hk] at h
  obtain ⟨pk, pp, pn, po, pf, pd, pi, ps, pl⟩ := p
  obtain ⟨qk, qp, qn, qo, qf, qd, qi, qs, ql⟩ := q
  obtain ⟨a1, _, _, a4, a5, a6, a7, a8, a9⟩ := hp
  obtain ⟨_, _, _, b4, b5, b6, b7, b8, b9⟩ := hq
  dsimp only at *
  subst hk e1 e2
  rcases (by omega : pk = 1 ∨ pk = 2 ∨ pk = 3 ∨ pk = 4) with rfl | rfl | rfl | rfl
  · have x5 := a5 (by omega); have x7 := a7 (by omega); have x9 := a9 (by omega)
    have y5 := b5 (by omega); have y7 := b7 (by omega); have y9 := b9 (by omega)
    have d1 := List.eq_nil_of_length_eq_zero x7.2.1
    have d2 := List.eq_nil_of_length_eq_zero y7.2.1
    rw [x5, y5, x7.1, y7.1, d1, d2, x7.2.2, y7.2.2, x9.1, y9.1, x9.2, y9.2]
  · have x4 := a4 (by omega); have x7 := a7 (by omega); have x9 := a9 (by omega)
    have y4 := b4 (by omega); have y7 := b7 (by omega); have y9 := b9 (by omega)
    have d1 := List.eq_nil_of_length_eq_zero x7.2.1
    have d2 := List.eq_nil_of_length_eq_zero y7.2.1
    rw [if_pos rfl, if_pos rfl] at h
    rw [putN_one (by omega) (by omega) h, x7.1, y7.1, d1, d2, x7.2.2, y7.2.2, x9.1, y9.1, x9.2, y9.2]
  · have x5 := a5 (by omega); have x6 := a6 (by omega); have x9 := a9 (by omega)
    have y5 := b5 (by omega); have y6 := b6 (by omega); have y9 := b9 (by omega)
    simp only [if_neg (show ¬ (3 : Int) = 2 by omega), if_pos (show (3 : Int) = 3 from rfl), List.append_assoc] at h
    obtain ⟨e3, h⟩ := putN_app (by omega) (by omega) h
    obtain ⟨e4, h⟩ := putN_app (by omega) (by omega) h
    obtain ⟨e5, h⟩ := List.append_inj h (by omega)
    have e6 : pi = qi := by
      revert h
      cases pi <;> cases qi <;> simp
    rw [x5, y5, e3, e5, e6, x9.1, y9.1, x9.2, y9.2]
  · have x4 := a4 (by omega); have x7 := a7 (by omega); have x8 := a8 (by omega)
    have y4 := b4 (by omega); have y7 := b7 (by omega); have y8 := b8 (by omega)
    have d1 := List.eq_nil_of_length_eq_zero x7.2.1
    have d2 := List.eq_nil_of_length_eq_zero y7.2.1
    simp only [if_neg (show ¬ (4 : Int) = 2 by omega), if_neg (show ¬ (4 : Int) = 3 by omega), if_pos (show (4 : Int) = 4 from rfl)] at h
    obtain ⟨e3, h⟩ := putN_app (by omega) (by omega) h
    obtain ⟨e4, h⟩ := putN_app (by omega) (by omega) h
    rw [e3, e4, putN_one (by omega) (by omega) h, x7.1, y7.1, d1, d2, x7.2.2, y7.2.2]
theorem seal_inj {x y : List Int} (h : sealL x = sealL y) : x = y := by
  have hl : (sealL x).length = (sealL y).length := by rw [h]
  rw [sealL_len, sealL_len] at hl
  unfold sealL at h
  exact (List.append_inj h (by omega)).1
theorem packet_inj {p q : Pk} (hp : RightP p p.data.length) (hq : RightP q q.data.length) (h : sealL (plainL p) = sealL (plainL q)) : p = q := plain_inj hp hq (seal_inj h)
end Go.Proofs.YtdneakejlbabeaaGreat

namespace Go.Proofs.YtdneakejlbabeaaGreat
open Go.RowKit
set_option linter.unusedVariables false
set_option linter.unusedSimpArgs false

/-- The texts of a row's events are not too long. -/
def Small (ns : List (Int × Ev)) : Prop := ∀ y ∈ ns, y.2.data.length ≤ 1000000 ∧ y.2.pk.data.length ≤ 1000000
/-- A new row of events. -/
def NewE (w : World) (es : List Ev) (r : Ending) (w' : World) : Prop := ∃ v S, r = .returned v ∧ ERow S w' v es ∧ Below w.heap.size w w'
def OnlyR (w : World) (s : Int) (ns : List (Int × Ev)) (i v : Value) (wr : World) : Prop :=
  ∃ (k : Nat) (S : Nat → Prop), k ≤ ns.length ∧ i = .int .i64 k ∧ OutG ecells 12 29 (fun S w (e : Ev) x => EV w S e x) w.heap.size S wr v (only s (ns.take k)) ∧ (∀ j, S j → w.heap.size ≤ j) ∧ Below w.heap.size w wr

set_option maxHeartbeats 4000000 in
set_option maxRecDepth 100000 in
theorem only_any (w : World) (S : Nat → Prop) (v : Value) (ns : List (Int × Ev)) (s : Int) (h : NRow S w v ns) (hn : ns.length ≤ 1000000) (hs : Small ns) :
    Calls Tryz.prog 15 #[v, .int .i64 s] w fun r w' => NewE w (only s ns) r w' := by
  obtain ⟨A, c, rfl, hc1, hc2⟩ := h.len
  have H := Lib.hid h
  have HS := Lib.hid hs
  have HI := Lib.hid Tryz.info29
  clear h hs
  go_enter Tryz.func15, Tryz.ntmps15
  go_wp2_with fail
  go_loopw [10, 5, 7] (fun i v _ wr => OnlyR w s ns i v wr) (fun i _ _ _ => ns.length - (intOf i).toNat)
  case atStart => exact ⟨0, fun _ => False, Nat.zero_le _, rfl, OutG.nil _ _ _ _ _ _ _, fun _ h => h.elim, Below.refl _ _⟩
  case round =>
    obtain ⟨k, S1, hk, rfl, hout, hS1, hb⟩ := hrel
    have iwk : IntKind.i64.wrap ((k : Int) + 1) = (k : Int) + 1 := IntWalk.i64_in _ ⟨by omega, by omega⟩
    obtain ⟨A1, c1, rfl⟩ := hout.form
    have OUT := Lib.hid hout
    have BR := Lib.hid hb
    have sr : w.heap.size ≤ wr.heap.size := hb.size
    clear hout hb
    by_cases hkn : k < ns.length
    · have k0 : (0 : Int) ≤ (k : Int) := by omega
      have k1 : (k : Int) < (ns.length : Int) := by omega
      obtain ⟨ad, q, e, x, y, rfl, he, hx, hce⟩ := NRow.ev (H.out.below BR.out) hkn
      obtain ⟨a0, a1, a2, a3, a4, a5, a6, a7, a8, a9, a10, a11, a12⟩ := hce
      have hsm := HS.out (q, e) (List.mem_of_getElem? he)
      have OS := Lib.hid (only_snoc s ns k (q, e) he)
      obtain ⟨X1, x1, rfl, _⟩ := hx.1.len
      obtain ⟨Y1, y1, rfl, _⟩ := hx.2.len
      have EX := Lib.hid (hx.frm (Frm.of_below (S := fun _ => False) ((Below.refl wr.heap.size wr).alloc (Nat.le_refl _) (.cells #[.int .i64 q, .int .i64 e.kind, .int .i64 e.n, .slice X1 e.data.length x1, .int .i64 e.pk.kind, .int .i64 e.pk.path, .int .i64 e.pk.number, .int .i64 e.pk.of_, .int .i64 e.pk.from_, .slice Y1 e.pk.data.length y1, .bool e.pk.fin, .int .i64 e.pk.seen, .int .i64 e.pk.limit] 52))) (fun _ _ h => h))
      clear he hx
      by_cases hq : q = s
      · subst hq
        go_wp2_with fail
        refine (own_any _ S e _ _ EX.out hsm.1 hsm.2).mono ?_
        rintro r w2 ⟨x2, y2, rfl, hx2, hb2⟩
        have K12 : Below wr.heap.size wr w2 := ((Below.refl wr.heap.size wr).alloc (Nat.le_refl _) _).trans (hb2.mono (by simp))
        obtain ⟨vs, p1, p2, p3, p4⟩ := OUT.out
        have OW := Lib.hid (own_frm p1 (Frm.of_below (S := fun _ => False) K12) (fun _ _ h => h))
        have hol : (only q (ns.take k)).length ≤ 1000000 := by have := only_length q (ns.take k); rw [List.length_take] at this; omega
        have EX2 := Lib.hid hx2
        have KK := Lib.hid K12
        have P1 := Lib.hid p1
        have P2 := Lib.hid p2
        have P3 := Lib.hid p3
        have P4 := Lib.hid p4
        have sz2 : w.heap.size ≤ w2.heap.size := Nat.le_trans sr K12.size
        clear p1 p2 p3 p4 hx2 hb2 K12
        go_wp2_with (at_builtin; refine wp_app w.heap.size rfl _ _ 30 29 _ 12 128 rfl Tryz.underlying30 HI.out rfl (by omega) (by omega) rfl rfl (OW.out.alloc _) (Sl.boxk w2 29 12 (ecells e (x2, y2)) _ (by simp) rfl (EV.one EX2.out)) (by omega) (Nat.le_trans sz2 (by simp)) ?_; intro v3 w3 hown hfr hat)
        have hnew := OutG.snoc liesE (T' := fun j => (wr.alloc (.cells #[.int .i64 q, .int .i64 e.kind, .int .i64 e.n, .slice X1 e.data.length x1, .int .i64 e.pk.kind, .int .i64 e.pk.path, .int .i64 e.pk.number, .int .i64 e.pk.of_, .int .i64 e.pk.from_, .slice Y1 e.pk.data.length y1, .bool e.pk.fin, .int .i64 e.pk.seen, .int .i64 e.pk.limit] 52)).heap.size ≤ j) P1.out P2.out P3.out P4.out KK.out EX2.out (fun j hj => Nat.le_trans (by simp) hj) hfr hown hat
        have hb3 : Below w.heap.size w w3 := Frm.below ((BR.out.trans (KK.out.mono sr)).alloc sz2 _) hfr (Nat.le_trans sz2 (by simp)) (fun j hj => (P1.out.lt j hj).1)
        have mk : ∀ S3, OutG ecells 12 29 (fun S w (e : Ev) x => EV w S e x) w.heap.size S3 w3 v3 (only q (ns.take k) ++ [e]) → (∀ j, S3 j → w.heap.size ≤ j) → ∀ i, i = Value.int .i64 ((k + 1 : Nat) : Int) → OnlyR w q ns i v3 w3 := fun S3 h1 h2 i hi => ⟨k + 1, S3, hkn, hi, by rw [OS.out]; simp only [if_true]; exact h1, h2, hb3⟩
        have REL := Lib.hid (mk _ hnew (fun j hj => by
          rcases hj with hj | hj
          · exact hS1 j hj.1
          · exact Nat.le_trans sr (Nat.le_trans (by simp) hj.1)))
        clear hnew hb3 hown hfr hat mk
        try go_wp2_with fail
        go_roundw
        case rel => exact REL.out _ (by go_num)
        case measure => simp [intOf]; omega
      · have hq2 : (q == s) = false := by simpa using hq
        go_wp2_with fail
        go_roundw
        case rel =>
          refine ⟨k + 1, S1, by omega, by go_num, ?_, hS1, BR.out.alloc sr _⟩
          rw [OS.out, if_neg hq]
          exact OUT.out.below liesE ((Below.refl _ _).alloc (Nat.le_refl _) _)
        case measure => simp [intOf]; omega
    · have k1 : ¬ (k : Int) < (ns.length : Int) := by omega
      obtain rfl : k = ns.length := by omega
      go_wp2_with fail
      go_ret
      refine ⟨_, S1, rfl, ?_, BR.out⟩
      have := OUT.out
      rw [List.take_length] at this
      exact this.row (fun a b hab => EV.one hab)
end Go.Proofs.YtdneakejlbabeaaGreat

namespace Go.Proofs.YtdneakejlbabeaaGreat
open Go.RowKit
set_option linter.unusedVariables false
set_option linter.unusedSimpArgs false

/-- The block of an event. -/
def EBlk (w : World) (S : Nat → Prop) (g : Nat) (e : Ev) : Prop := ∃ x y, Blk w g (ecells e (x, y)).toArray 29 ∧ EV w S e (x, y)
theorem EBlk.below {S : Nat → Prop} {w w' : World} {g : Nat} {e : Ev} (h : EBlk w S g e) (k : Below w.heap.size w w') : EBlk w' S g e := by
  obtain ⟨x, y, h1, h2⟩ := h
  exact ⟨x, y, h1.below k, h2.1.below k, h2.2.below k⟩

set_option maxHeartbeats 1000000 in
set_option maxRecDepth 100000 in
theorem may1_any (w : World) (S S' : Nat → Prop) (g : Nat) (e : Ev) (p : Pk) (v : Value) (b : Bool) (hb : decide (p = e.pk) = b) (h : EBlk w S g e) (hp : BV w S' v p.data) :
    Calls Tryz.prog 35 #[pagg p v, .pointer (some ⟨g, 0, none⟩)] w fun r w' => r = .returned (.bool b) ∧ Below w.heap.size w w' := by
  obtain ⟨x, y, hbk, hx⟩ := h
  obtain ⟨A, c, rfl, _⟩ := hx.2.len
  obtain ⟨B, d, rfl, _⟩ := hp.len
  have k0 := (Below.refl w.heap.size w).alloc (Nat.le_refl _) (.cells #[.int .i64 p.kind, .int .i64 p.path, .int .i64 p.number, .int .i64 p.of_, .int .i64 p.from_, .slice B p.data.length d, .bool p.fin, .int .i64 p.seen, .int .i64 p.limit] 27)
  have B0 := Lib.hid k0
  have HX := Lib.hid (hx.2.below k0)
  have HP := Lib.hid (hp.below k0)
  have hb2 := hbk.below k0
  have c3 := hb2.cell 3
  have c4 := hb2.cell 4
  have c5 := hb2.cell 5
  have c6 := hb2.cell 6
  have c7 := hb2.cell 7
  have c8 := hb2.cell 8
  have c9 := hb2.cell 9
  have c10 := hb2.cell 10
  have c11 := hb2.cell 11
  simp only [ecells, List.getElem?_toArray, List.getElem?_cons_zero, List.getElem?_cons_succ] at c3 c4 c5 c6 c7 c8 c9 c10 c11
  have HB := Lib.hid hb
  clear hbk hx hp k0 hb2 hb
  go_enter Tryz.func35, Tryz.ntmps35
  go_wp2_with fail
  refine (psame_at _ S' S p e.pk _ _ b HB.out HP.out HX.out).mono ?_
  rintro r w2 ⟨rfl, hb2⟩
  go_wp2_with fail
  go_ret
  exact ⟨rfl, B0.out.trans (hb2.mono B0.out.size)⟩

abbrev PRow (S : Nat → Prop) (w : World) (v : Value) (ps : List Pk) : Prop := RowV pcells 9 (fun w p x => BV w S x p.data) w v ps
theorem PRow.below {S : Nat → Prop} {w w' : World} {v : Value} {ps : List Pk} (h : PRow S w v ps) (k : Below w.heap.size w w') : PRow S w' v ps :=
  RowV.below h k (fun a b hab => hab.below k)
def PCells (w : World) (p : Addr) (k : Pk) (x : Value) : Prop :=
  w.cell? p = some (.int .i64 k.kind) ∧ w.cell? ⟨p.block, p.off + 1, none⟩ = some (.int .i64 k.path) ∧ w.cell? ⟨p.block, p.off + 2, none⟩ = some (.int .i64 k.number) ∧ w.cell? ⟨p.block, p.off + 3, none⟩ = some (.int .i64 k.of_) ∧ w.cell? ⟨p.block, p.off + 4, none⟩ = some (.int .i64 k.from_) ∧ w.cell? ⟨p.block, p.off + 5, none⟩ = some x ∧
    w.cell? ⟨p.block, p.off + 6, none⟩ = some (.bool k.fin) ∧ w.cell? ⟨p.block, p.off + 7, none⟩ = some (.int .i64 k.seen) ∧ w.cell? ⟨p.block, p.off + 8, none⟩ = some (.int .i64 k.limit)
theorem PRow.pk {S : Nat → Prop} {w : World} {A : Option Addr} {n c : Nat} {ps : List Pk} (h : PRow S w (.slice A n c) ps) {i : Nat} (hi : i < ps.length) : ∃ ad p x, A = some ad ∧ ps[i]? = some p ∧ BV w S x p.data ∧ PCells w (ad.add (i * 9)) p x := by
  obtain ⟨ad, p, x, rfl, he, hx, hc⟩ := RowV.at_ h (by omega) pcells_len hi
  have h0 := hc 0 _ rfl
  rw [addr_zero] at h0
  have g := fun (j : Nat) (hj : j ≠ 0) (u : Value) (hu : (pcells p x)[j]? = some u) => by
    have := hc j u hu
    rw [addr_pos _ _ hj] at this
    exact this
  exact ⟨ad, p, x, rfl, he, hx, h0, g 1 (by omega) _ rfl, g 2 (by omega) _ rfl, g 3 (by omega) _ rfl, g 4 (by omega) _ rfl, g 5 (by omega) _ rfl, g 6 (by omega) _ rfl, g 7 (by omega) _ rfl, g 8 (by omega) _ rfl⟩

/-- Found, or not. -/
def FoundR (b : Bool) (w : World) (r : Ending) (w' : World) : Prop := ∃ z : Int, r = .returned (.int .i64 z) ∧ (decide (0 ≤ z) = b) ∧ Below w.heap.size w w'
set_option maxHeartbeats 1000000 in
set_option maxRecDepth 100000 in
theorem idx_any (w : World) (S S' : Nat → Prop) (g : Nat) (e : Ev) (v : Value) (ps : List Pk) (h : EBlk w S g e) (hp : PRow S' w v ps) :
    Calls Tryz.prog 52 #[v, .func (.func 35) #[] #[.pointer (some ⟨g, 0, none⟩)]] w fun r w' => FoundR (decide (e.pk ∈ ps)) w r w' := by
  obtain ⟨A, c, rfl, hc1, hc2⟩ := hp.len
  unfold maxLen at hc2
  have H := Lib.hid h
  have P := Lib.hid hp
  clear h hp
  go_enter Tryz.func52, Tryz.ntmps52
  go_wp2_with fail
  go_loopw [8, 5] (fun i _ wr => ∃ k : Nat, k ≤ ps.length ∧ i = .int .i64 k ∧ e.pk ∉ ps.take k ∧ Below w.heap.size w wr) (fun i _ _ => ps.length - (intOf i).toNat)
  case atStart => exact ⟨0, Nat.zero_le _, rfl, by simp, Below.refl _ _⟩
  case round =>
    obtain ⟨k, hk, rfl, hno, hb⟩ := hrel
    have NO := Lib.hid hno
    have BR := Lib.hid hb
    have sr : w.heap.size ≤ wr.heap.size := hb.size
    clear hno hb
    by_cases hkn : k < ps.length
    · have k0 : (0 : Int) ≤ (k : Int) := by omega
      have k1 : (k : Int) < (ps.length : Int) := by omega
      have iwk : IntKind.i64.wrap ((k : Int) + 1) = (k : Int) + 1 := IntWalk.i64_in _ ⟨by omega, by omega⟩
      obtain ⟨ad, p, x, rfl, he, hx, hce⟩ := PRow.pk (P.out.below BR.out) hkn
      obtain ⟨a0, a1, a2, a3, a4, a5, a6, a7, a8⟩ := hce
      obtain ⟨b, hb⟩ : ∃ b, decide (p = e.pk) = b := ⟨_, rfl⟩
      have HB := Lib.hid hb
      have HE := Lib.hid he
      have HX := Lib.hid hx
      have TK : Hid (ps.take (k + 1) = ps.take k ++ [p]) := Lib.hid (by rw [List.take_add_one, he]; rfl)
      obtain ⟨X1, x1, rfl, _⟩ := hx.len
      clear hb he hx
      go_wp2_with fail
      refine (may1_any wr S S' g e p _ b HB.out (H.out.below BR.out) HX.out).mono ?_
      rintro r w2 ⟨rfl, hb2⟩
      have B2 := Lib.hid (BR.out.trans (hb2.mono sr))
      clear hb2
      cases b
      · go_wp2_with fail
        go_roundw
        case rel =>
          refine ⟨k + 1, by omega, by go_num, ?_, B2.out⟩
          rw [TK.out, List.mem_append]
          rintro (h | h)
          · exact NO.out h
          · have := HB.out
            simp at h this
            exact this h.symm
        case measure => simp [intOf]; omega
      · go_wp2_with fail
        go_ret
        refine ⟨_, rfl, ?_, B2.out⟩
        have h1 := HB.out
        simp at h1
        have h2 : e.pk ∈ ps := h1 ▸ List.mem_of_getElem? HE.out
        simp [h2]
    · have k1 : ¬ (k : Int) < (ps.length : Int) := by omega
      go_wp2_with fail
      go_ret
      refine ⟨_, rfl, ?_, BR.out⟩
      have := NO.out
      rw [List.take_of_length_le (by omega)] at this
      simp [this]

set_option maxHeartbeats 1000000 in
set_option maxRecDepth 100000 in
theorem cont_any (w : World) (S S' : Nat → Prop) (g : Nat) (e : Ev) (v : Value) (ps : List Pk) (h : EBlk w S g e) (hp : PRow S' w v ps) :
    Calls Tryz.prog 34 #[v, .func (.func 35) #[] #[.pointer (some ⟨g, 0, none⟩)]] w fun r w' => r = .returned (.bool (decide (e.pk ∈ ps))) ∧ Below w.heap.size w w' := by
  obtain ⟨A, c, rfl, _⟩ := hp.len
  have H := Lib.hid h
  have P := Lib.hid hp
  clear h hp
  obtain ⟨b, hb⟩ : ∃ b, decide (e.pk ∈ ps) = b := ⟨_, rfl⟩
  rw [hb]
  have HB := Lib.hid hb
  clear hb
  go_enter Tryz.func34, Tryz.ntmps34
  go_wp2_with fail
  refine (idx_any w S S' g e _ ps H.out P.out).mono ?_
  rintro r w2 ⟨z, rfl, hz, hb2⟩
  rw [HB.out] at hz
  have HZ := Lib.hid hz
  clear hz
  go_wp2_with fail
  go_ret
  exact ⟨congrArg (fun b => Ending.returned (.bool b)) HZ.out, hb2⟩
set_option maxHeartbeats 1000000 in
set_option maxRecDepth 100000 in
theorem may_any (w : World) (S S' : Nat → Prop) (e : Ev) (x y v : Value) (ps : List Pk) (hx : EV w S e (x, y)) (hp : PRow S' w v ps) :
    Calls Tryz.prog 27 #[eagg e x y, v] w fun r w' => r = .returned (.bool (decide (e.kind ≠ 4 ∨ e.pk ∈ ps))) ∧ Below w.heap.size w w' := by
  obtain ⟨A, c, rfl, _⟩ := hx.1.len
  obtain ⟨B, d, rfl, _⟩ := hx.2.len
  have k0 := (Below.refl w.heap.size w).alloc (Nat.le_refl _) (.cells #[.int .i64 e.kind, .int .i64 e.n, .slice A e.data.length c, .int .i64 e.pk.kind, .int .i64 e.pk.path, .int .i64 e.pk.number, .int .i64 e.pk.of_, .int .i64 e.pk.from_, .slice B e.pk.data.length d, .bool e.pk.fin, .int .i64 e.pk.seen, .int .i64 e.pk.limit] 29)
  have EB : Hid (EBlk (w.alloc (.cells #[.int .i64 e.kind, .int .i64 e.n, .slice A e.data.length c, .int .i64 e.pk.kind, .int .i64 e.pk.path, .int .i64 e.pk.number, .int .i64 e.pk.of_, .int .i64 e.pk.from_, .slice B e.pk.data.length d, .bool e.pk.fin, .int .i64 e.pk.seen, .int .i64 e.pk.limit] 29)) S w.heap.size e) := Lib.hid ⟨_, _, Blk.new w _ 29, hx.1.below k0, hx.2.below k0⟩
  have P := Lib.hid (hp.below k0)
  have B0 := Lib.hid k0
  clear hx hp k0
  by_cases h4 : e.kind = 4
  · have hk : (e.kind != 4) = false := by simpa using h4
    have H4 := Lib.hid h4
    clear h4
    go_enter Tryz.func27, Tryz.ntmps27
    go_wp2_with fail
    refine (cont_any _ S S' w.heap.size e v ps EB.out P.out).mono ?_
    rintro r w2 ⟨rfl, hb2⟩
    go_wp2_with fail
    go_ret
    exact ⟨by simp [H4.out], B0.out.trans (hb2.mono B0.out.size)⟩
  · have hk : (e.kind != 4) = true := by simpa using h4
    have H4 := Lib.hid h4
    clear h4
    go_enter Tryz.func27, Tryz.ntmps27
    go_wp2_with fail
    go_ret
    exact ⟨by simp [H4.out], B0.out⟩
theorem may_at (w : World) (S S' : Nat → Prop) (e : Ev) (x y v : Value) (ps : List Pk) (b : Bool) (hb : decide (e.kind ≠ 4 ∨ e.pk ∈ ps) = b) (hx : EV w S e (x, y)) (hp : PRow S' w v ps) :
    Calls Tryz.prog 27 #[eagg e x y, v] w fun r w' => r = .returned (.bool b) ∧ Below w.heap.size w w' := hb ▸ may_any w S S' e x y v ps hx hp
end Go.Proofs.YtdneakejlbabeaaGreat
