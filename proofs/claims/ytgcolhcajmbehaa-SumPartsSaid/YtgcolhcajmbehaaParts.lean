/- Proved: SumParts returns true for every input, and leaves its arguments as they were; no further condition.
   The frame around the walk was written by the guide's proof-skeleton program. -/
import Derived.Test.YtgcolhcajmbehaaRows
import Derived.Test.YtgcolhcajmbehaaFns
import Derived.Test.YtgcolhcajmbehaaLin
import Derived.Test.YtgcolhcajmbehaaAid
import Derived.Test.YtgcolhcajmbehaaPi
import Derived.Deep.AppendLies
import Derived.WalkKit
import Derived.ProofKit
import Derived.OpenShut
import Derived.ShutString
import Derived.ChangeOld
import Derived.Below
namespace Go.Proofs.Ytgcolhcajmbehaa.sumParts
open Go.ChangeShapes Go.WideShapes Go.ChangeAt Go.RowKit
open Go.ChangeMaps (open_string shut_string)
set_option linter.unusedVariables false

theorem own : ownKnob Try.prog.godebug = none := by kernel_rfl
theorem laidOut : laidOutB Try.prog = true := by kernel_rfl

/-- All guards of the region say 'true' and hang on one of three operations. -/
def guardsChk (ops : Array Oper) (ts : List Tmp) : Bool := ops.toList.all fun o => match o.guard with
  | none => true
  | some (g, bb) => bb && (match (ops[g]?).bind (·.dst) with
    | none => true
    | some d => ts.contains d)
theorem parts_guards (ops : Array Oper) (vl : List (Option Value)) {BW : World → Prop} {K n : Nat} {b : List Nat} {ts : List Tmp} (h : guardsChk ops ts = true) (hv : ∀ t v, t ∈ ts → okL vl t v → v = .bool true) : GuardsI ops (II BW vl K n b) := by
  intro sel w hI o g bb p d v ho hg hp hd hs
  unfold guardsChk at h
  have h1 := List.all_eq_true.1 h o ho
  rw [hg] at h1
  simp only [hp, Option.bind_some, hd, Bool.and_eq_true] at h1
  rw [h1.1]
  exact hv d v (by simpa using h1.2) (hI.2.1 d v hs)
theorem JP.start (K n : Nat) (b : List Nat) (w : World) {sel : Tmp → Option Value} (h : ∀ t ∈ spots, sel t = none) : JP K n b sel w := by
  have e1 := h 87 (by decide)
  have e2 := h 88 (by decide)
  have e3 := h 89 (by decide)
  have e4 := h 90 (by decide)
  have e5 := h 93 (by decide)
  have e6 := h 94 (by decide)
  have e7 := h 95 (by decide)
  refine ⟨?_, ?_, ?_, ?_, ?_, ?_, ?_, ?_, ?_⟩
  · intro v hv; rw [e1] at hv; cases hv
  · intro v hv; rw [e2] at hv; cases hv
  · intro v hv; rw [e3] at hv; cases hv
  · intro v hv; rw [e5] at hv; cases hv
  · intro v hv; rw [e6] at hv; cases hv
  · intro v hv; rw [e7] at hv; cases hv
  · intro v hv; rw [e5] at hv; cases hv
  · intro v hv; rw [e4] at hv; cases hv
  · intro v hv; rw [e7] at hv; cases hv

/-- WHAT THE WALK IS TOLD OF A SLICE OF INTEGERS THAT CAME IN: it is nil; or it leads to a row of 'cap' cells, the numbers 'zs' (the first 'len' are its elements, the rest its spare room), each fitting its kind. -/
def IsRow (k : IntKind) (w : World) (a : Option Addr) (len cap : Nat) (zs : List Int) : Prop :=
  (a = none ∧ len = 0 ∧ cap = 0 ∧ zs = []) ∨
  ∃ x, a = some x ∧ len ≤ cap ∧ cap ≤ maxLen ∧ zs.length = cap ∧ (∀ i, i < zs.length → w.cell? (x.add i) = some (.int k (zs.getD i 0))) ∧ ∀ n ∈ zs, (Lit.int k n).wf = true

/-! ### STEP 1: THE WALK: the Go text returns true, AND WRITES NOTHING THAT WAS THERE: 'Below w.heap.size w w'' (Derived/Below.lean: '.refl', '.alloc', '.drew', '.setCell' at a new block, '.trans'). Open each 'IsRow' by 'rcases' AHEAD of 'go_enter'; part every test ahead of the walk. -/
set_option maxHeartbeats 16000000 in
set_option maxRecDepth 100000 in
theorem walk (a0 : Option Addr) (len0 cap0 : Nat) (z0 : List Int) (a1 : Int) (a2 : Int) (w : World) (w0 : IsRow .u8 w a0 len0 cap0 z0) (w1 : (Lit.int .i64 a1).wf = true) (w2 : (Lit.int .i64 a2).wf = true) :
    Calls Try.prog 3 #[.slice a0 len0 cap0, .int .i64 a1, .int .i64 a2] w fun e w' => e = .returned (.bool true) ∧ Below w.heap.size w w' := by
  obtain ⟨bs, hbs, hb256⟩ := bytes_of_row w0
  have HBS := Lib.hid hbs
  have HLT := Lib.hid hb256
  clear hbs hb256 w0 w1 w2
  go_enter Try.func3, Try.ntmps3
  go_wp2_with fail
  refine (cut_any _ _ _ _ 60 HBS.out (by omega)).mono ?_
  rintro e w1 ⟨v1, rfl, ho, hb⟩
  obtain ⟨n0, hn0⟩ : ∃ n0, n0 = min len0 60 := ⟨_, rfl⟩
  have n60 : n0 ≤ 60 := by omega
  rw [← hn0, u8s_take] at ho
  have HL := Lib.hid (take_lt 60 HLT.out)
  generalize bs.take 60 = b0 at ho HL
  have HO := Lib.hid ho
  have HB := Lib.hid hb
  have sz := hb.size
  clear ho hb hn0 HBS HLT
  have HI := Lib.hid Try.info5
  go_wp2_with (at_builtin; refine wp_app w.heap.size rfl _ _ 22 5 (.int .u8 0) 1 1 rfl Try.underlying22 HI.out rfl (by omega) (by omega) rfl rfl (HO.out.alloc _) (Sl.box w1 5 #[.int .u8 1, .int .u8 2] 2 rfl (by simp [maxLen]) (by simp [Value.oneCell'])) (by omega) (Nat.le_trans sz (by simp)) ?_; intro v2 w2 hown hfr hat)
  have sz2 : w.heap.size ≤ w2.heap.size := Nat.le_trans sz (Nat.le_trans (by simp) hfr.size)
  have HB2 := Lib.hid (Frm.below (HB.out.alloc sz _) hfr (Nat.le_trans sz (by simp)) (fun g hg => (HO.out.lt g hg).1))
  obtain ⟨b, n, hbl, hb256, hn, hob⟩ : ∃ (b : List Nat) (n : Nat), b.length = n ∧ (∀ x ∈ b, x < 256) ∧ n = n0 + 2 ∧ w2.ownsRow w.heap.size 5 1 v2 n (u8s b) := ⟨b0 ++ [1, 2], n0 + 2, by have := own_len hown; simp [u8s] at this ⊢; omega, lt_append HL.out (by decide), rfl, by simpa [u8s] using hown⟩
  have n2 : 2 ≤ n := by omega
  have n62 : n ≤ 62 := by omega
  obtain ⟨gb, cb, rfl, gb0, _⟩ := hob.form (by omega)
  have HOB := Lib.hid hob
  have HBL := Lib.hid hbl
  have HLT := Lib.hid hb256
  clear hown hfr hat hbl hb256 hob hn HO HB HL n60 sz
  go_wp2_with fail
  refine (table_any _).mono ?_
  rintro e w3 ⟨vt, rfl, ho, hb⟩
  have HT := Lib.hid (Sl.of_own ho (u32s_one _))
  have HSB := Lib.hid ((Sl.of_own HOB.out (u8s_one _)).below hb)
  have sz3 : w.heap.size ≤ w3.heap.size := Nat.le_trans sz2 hb.size
  have HB3 := Lib.hid (HB2.out.trans (hb.mono sz2))
  clear ho hb HB2 sz2
  have HTL := Lib.hid (tabN_lt 256 (Nat.le_refl _))
  obtain ⟨At, ct, rfl, _, _⟩ := HT.out.len
  go_wp2_with fail
  refine (of_any _ _ _ 256 n (tabN 256) b HT.out HSB.out rfl HTL.out HLT.out).mono ?_
  rintro e _ ⟨rfl, rfl⟩
  obtain ⟨sb, hsb⟩ : ∃ sb, sb = ofN (tabN 256) b := ⟨_, rfl⟩
  rw [← hsb]
  have HS := Lib.hid hsb
  clear hsb
  go_wp2_with fail
  refine (within_any a1 (n - 1) _ (by omega) (by omega)).mono ?_
  rintro e _ ⟨rfl, rfl⟩
  obtain ⟨i, hi⟩ : ∃ i : Nat, (i : Int) = a1 % (n - 1) := ⟨(a1 % (n - 1)).toNat, Int.toNat_of_nonneg (Int.emod_nonneg _ (by omega))⟩
  have hi1 : i + 1 < n := by have := Int.emod_lt_of_pos a1 (b := (n : Int) - 1) (by omega); omega
  rw [← hi]
  clear hi
  go_wp2_with fail
  refine (copy_any _ _ _ _ HSB.out (by omega)).mono ?_
  rintro e w4 ⟨vc, rfl, ho, hb⟩
  obtain ⟨gc, cc, rfl, gc0, _⟩ := ho.form (by omega)
  have gc1 : w.heap.size ≤ gc := Nat.le_trans sz3 gc0
  have hlc : gc < w4.heap.size := (ho.lt gc rfl).2
  obtain ⟨pre, x, y, post, hsplit, hpl, hx, hy, hpost⟩ := split_two HBL.out HLT.out hi1
  have HSP := Lib.hid hsplit
  have HPO := Lib.hid hpost
  have kx : w4.cell? ⟨gc, i, none⟩ = some (.int .u8 x) := by rw [ho.cellAt i (by omega), hsplit]; exact two_get0 hpl
  have ky : w4.cell? ⟨gc, i + 1, none⟩ = some (.int .u8 y) := by rw [ho.cellAt (i + 1) (by omega), hsplit]; exact two_get1 hpl
  have fx := ho.frozenAt i
  have fy := ho.frozenAt (i + 1)
  have HPL := Lib.hid hpl
  have HOC := Lib.hid ho
  have HT4 := Lib.hid (HT.out.below hb)
  have HSB4 := Lib.hid (HSB.out.below hb)
  have sz4 : w.heap.size ≤ w4.heap.size := Nat.le_trans sz3 hb.size
  have HB4 := Lib.hid (HB3.out.trans (hb.mono sz3))
  have hgbc : gb < gc := by have := HSB.out.lt_of gb rfl (by omega); omega
  have htc : ∀ g, (Value.slice At 256 ct).ownBlock = some g → g < gc := fun g hg => Nat.lt_of_lt_of_le (HT.out.lt_of g hg (by omega)) gc0
  have HTC := Lib.hid htc
  clear ho hb hpl HB3 HT HSB hsplit hpost htc
  have i1 : (i : Int) < (n : Int) := by omega
  have i2 : (i : Int) + 1 < (n : Int) := by omega
  have i3 : (0 : Int) ≤ (i : Int) := by omega
  have i4 : (0 : Int) ≤ (i : Int) + 1 := by omega
  have i5 : ((i : Int) + 1).toNat = i + 1 := by omega
  go_wp2_with fail
  go_region
  have F5 : Frm (· = gc) w4 ((w4.setCell ⟨gc, i, none⟩ (.int .u8 y)).setCell ⟨gc, i + 1, none⟩ (.int .u8 x)).drew := (((Frm.refl _ _).setg _).setg _).drew
  have HOC5 : Hid (((w4.setCell ⟨gc, i, none⟩ (.int .u8 y)).setCell ⟨gc, i + 1, none⟩ (.int .u8 x)).drew.ownsRow w3.heap.size 5 1 (.slice (some ⟨gc, 0, none⟩) n cc) n (u8s (pre ++ y :: x :: post))) := by
    have h1 := ((HOC.out.stored i (.int .u8 y)).1.stored (i + 1) (.int .u8 x)).1
    rw [HSP.out, two_swap HPL.out] at h1
    exact h1
  generalize ((w4.setCell ⟨gc, i, none⟩ (.int .u8 y)).setCell ⟨gc, i + 1, none⟩ (.int .u8 x)).drew = w5 at *
  have HT5 := Lib.hid (HT4.out.frm F5 (by intro g hg e; subst e; have := HTC.out _ hg; omega))
  have HSB5 := Lib.hid (HSB4.out.frm F5 (by intro g hg e; subst e; injection hg with hg; simp at hg; omega))
  have sz5 : w.heap.size ≤ w5.heap.size := Nat.le_trans sz4 F5.size
  have HB5 := Lib.hid (Frm.below HB4.out F5 sz4 (by rintro j rfl; exact gc1))
  have hlc5 : gc < w5.heap.size := Nat.lt_of_lt_of_le hlc F5.size
  clear F5 HT4 HSB4 HB4 HOC kx ky fx fy sz4 hlc HTC
  go_wp2_with fail
  refine (copy_any _ _ _ _ HSB5.out (by omega)).mono ?_
  rintro e w6 ⟨vd, rfl, ho, hb⟩
  obtain ⟨gd, cd, rfl, gd0, _⟩ := ho.form (by omega)
  have gd1 : w.heap.size ≤ gd := Nat.le_trans sz5 gd0
  have HOD := Lib.hid ho
  have HT6 := Lib.hid (HT5.out.below hb)
  have HSB6 := Lib.hid (HSB5.out.below hb)
  have HSC6 := Lib.hid ((Sl.of_own HOC5.out (u8s_one _)).below hb)
  have HB6 := Lib.hid (HB5.out.trans (hb.mono sz5))
  have sz6 : w.heap.size ≤ w6.heap.size := Nat.le_trans sz5 hb.size
  have hgcd : gc < gd := by omega
  have htd : ∀ g, (Value.slice At 256 ct).ownBlock = some g → g < gd := fun g hg => Nat.lt_of_lt_of_le (HT5.out.lt_of g hg (by omega)) gd0
  have HTD := Lib.hid htd
  clear ho hb HT5 HSB5 HOC5 HB5 sz5 htd
  go_wp2_with fail
  refine (within_any a2 (8 * n) _ (by omega) (by omega)).mono ?_
  rintro e _ ⟨rfl, rfl⟩
  obtain ⟨k, hk⟩ : ∃ k : Nat, (k : Int) = a2 % (8 * n) := ⟨(a2 % (8 * n)).toNat, Int.toNat_of_nonneg (Int.emod_nonneg _ (by omega))⟩
  have hk1 : k < 8 * n := by have := Int.emod_lt_of_pos a2 (b := 8 * (n : Int)) (by omega); omega
  rw [← hk]
  clear hk
  obtain ⟨q, hq⟩ : ∃ q, q = k / 8 := ⟨_, rfl⟩
  obtain ⟨r, hr⟩ : ∃ r, r = k % 8 := ⟨_, rfl⟩
  have hq1 : q < n := by omega
  have hr8 : r < 8 := by omega
  have eq1 : (k : Int) / 8 = (q : Int) := by omega
  have er1 : (k : Int) % 8 = (r : Int) := by omega
  clear hq hr hk1
  obtain ⟨pre2, z, post2, hsp2, hpl2, hz, hpost2⟩ := split_one HBL.out HLT.out hq1
  have kz : w6.cell? ⟨gd, q, none⟩ = some (.int .u8 z) := by rw [HOD.out.cellAt q (by omega), hsp2]; exact one_get hpl2
  have fz := HOD.out.frozenAt q
  have HSP2 := Lib.hid hsp2
  have HPL2 := Lib.hid hpl2
  have HPO2 := Lib.hid hpost2
  clear hsp2 hpl2 hpost2
  have q1 : (q : Int) < (n : Int) := by omega
  have q3 : (0 : Int) ≤ (q : Int) := by omega
  have hp8 : 2 ^ r < 2 ^ 8 := Nat.pow_lt_pow_right (by omega) hr8
  have hp0 : 2 ^ r ≠ 0 := Nat.pos_iff_ne_zero.1 (Nat.two_pow_pos r)
  obtain ⟨zz, hzz⟩ : ∃ zz, zz = z ^^^ 2 ^ r := ⟨_, rfl⟩
  have hzz2 : zz < 256 := hzz ▸ Nat.xor_lt_two_pow (n := 8) hz hp8
  have exz : bits BinOp.xor IntKind.u8 (z : Int) (2 ^ r % 256) = (zz : Int) := by
    rw [hzz, show ((2 : Int) ^ r % 256) = ((2 ^ r : Nat) : Int) from by rw [Int.emod_eq_of_lt (Int.le_of_lt (Int.pow_pos (by omega))) (by exact_mod_cast hp8)]; simp]
    exact bits_xor_u8 z _ hz hp8
  have HZZ := Lib.hid hzz
  have HP8 := Lib.hid hp8
  have HP0 := Lib.hid hp0
  clear hzz hp8 hp0
  go_wp2_with fail
  have F7 : Frm (· = gd) w6 (w6.setCell ⟨gd, q, none⟩ (.int .u8 zz)) := (Frm.refl _ _).setg _
  have HOD7 : Hid ((w6.setCell ⟨gd, q, none⟩ (.int .u8 zz)).ownsRow w5.heap.size 5 1 (.slice (some ⟨gd, 0, none⟩) n cd) n (u8s (pre2 ++ zz :: post2))) := by
    have h1 := (HOD.out.stored q (.int .u8 zz)).1
    rw [HSP2.out, one_set HPL2.out] at h1
    exact h1
  generalize (w6.setCell ⟨gd, q, none⟩ (.int .u8 zz)) = w7 at *
  have hgd7 : gd < w7.heap.size := (HOD7.out.lt gd rfl).2
  have BG7 : Hid (Big w w7 w7.heap.size (.slice At 256 ct) (.slice (some ⟨gb, 0, none⟩) n cb) (.slice (some ⟨gc, 0, none⟩) n cc) (.slice (some ⟨gd, 0, none⟩) n cd) n b (pre ++ y :: x :: post) (pre2 ++ zz :: post2)) :=
    ⟨HT6.out.frm F7 (by intro g hg e; subst e; have := HTD.out _ hg; omega), HSB6.out.frm F7 (by intro g hg e; subst e; injection hg with hg; simp at hg; omega), HSC6.out.frm F7 (by intro g hg e; subst e; injection hg with hg; simp at hg; omega),
      Sl.of_own HOD7.out (u8s_one _), Frm.below HB6.out F7 sz6 (by rintro j rfl; exact gd1), Nat.le_trans sz6 F7.size, Nat.le_refl _,
      by intro g hg; rcases hg with hg | hg | hg | hg; · have := HTD.out _ hg; omega
         · injection hg with hg; simp at hg; omega
         · injection hg with hg; simp at hg; omega
         · injection hg with hg; simp at hg; omega⟩
  have sz7 : w.heap.size ≤ w7.heap.size := BG7.out.s
  have BG : Hid (Big w w7.drew w7.heap.size (.slice At 256 ct) (.slice (some ⟨gb, 0, none⟩) n cb) (.slice (some ⟨gc, 0, none⟩) n cc) (.slice (some ⟨gd, 0, none⟩) n cd) n b (pre ++ y :: x :: post) (pre2 ++ zz :: post2)) := BG7.out.drew
  have HGX : Hid (b[i]? = some x ∧ b[i + 1]? = some y) := by
    have hp := HPL.out
    have hb := HSP.out
    subst hp
    rw [hb]
    exact ⟨by simp, by simp⟩
  have HXY : Hid (b = pre ++ x :: y :: post ∧ b = pre2 ++ z :: post2 ∧ (∀ u ∈ post, u < 256) ∧ (∀ u ∈ post2, u < 256)) := ⟨HSP.out, HSP2.out, HPO.out, HPO2.out⟩
  clear F7 HT6 HSB6 HSC6 HOD HOD7 HB6 HTD sz6 kz fz eq1 er1 exz HSP HSP2 HPO HPO2 HPL HPL2 hgcd hgbc gc1 gd1 gb0 gc0 gd0 hlc5 q1 q3 hq1 hr8 hgd7 sz3
  -- what the last line comes to
  obtain ⟨oc, hoc⟩ : ∃ oc, oc = ofN (tabN 256) (pre ++ y :: x :: post) := ⟨_, rfl⟩
  obtain ⟨od, hod⟩ : ∃ od, od = ofN (tabN 256) (pre2 ++ zz :: post2) := ⟨_, rfl⟩
  obtain ⟨o0, ho0⟩ : ∃ o0, o0 = ofN (tabN 256) (b ++ [0]) := ⟨_, rfl⟩
  obtain ⟨o1, ho1⟩ : ∃ o1, o1 = ofN (tabN 256) (b ++ [1]) := ⟨_, rfl⟩
  have r1 : ((oc : Int) == (sb : Int)) = ((x : Int) == (y : Int)) := by
    rw [hoc, HS.out, HXY.out.1, Bool.eq_iff_iff]
    simp only [beq_iff_eq, Int.natCast_inj]
    exact of_swap pre post x y hx hy HXY.out.2.2.1
  have r2 : ((od : Int) != (sb : Int)) = true := by
    rw [hod, HS.out, HXY.out.2.1, HZZ.out, bne_iff_ne, Ne, Int.natCast_inj]
    exact of_turn pre2 post2 z (2 ^ r) hz HP8.out HP0.out HXY.out.2.2.2
  have r3 : ((o0 : Int) != (o1 : Int)) = true := by
    rw [ho0, ho1, bne_iff_ne, Ne, Int.natCast_inj]
    exact fun e => of_turn b [] 0 1 (by omega) (by omega) (by omega) (by simp) e.symm
  have HC := Lib.hid hoc
  have HD := Lib.hid hod
  have H0 := Lib.hid ho0
  have H1 := Lib.hid ho1
  have LC := Lib.hid (show ∀ u ∈ pre ++ y :: x :: post, u < 256 from fun u hu => HLT.out u (by rw [HXY.out.1]; simp only [List.mem_append, List.mem_cons] at hu ⊢; rcases hu with h | h | h | h; exact .inl h; exact .inr (.inr (.inl h)); exact .inr (.inl h); exact .inr (.inr (.inr h))))
  have LD := Lib.hid (show ∀ u ∈ pre2 ++ zz :: post2, u < 256 from lt_append (fun u hu => HLT.out u (by rw [HXY.out.2.1]; simp [hu])) (by intro u hu; rcases List.mem_cons.1 hu with rfl | h; exact hzz2; exact HXY.out.2.2.2 u h))
  have L0 := Lib.hid (lt_append HLT.out (show ∀ u ∈ [0], u < 256 by decide))
  have L1 := Lib.hid (lt_append HLT.out (show ∀ u ∈ [1], u < 256 by decide))
  have kx : w7.cell? ⟨gb, i, none⟩ = some (.int .u8 x) := sl_cell BG7.out.b (by omega) x HGX.out.1
  have ky : w7.cell? ⟨gb, i + 1, none⟩ = some (.int .u8 y) := sl_cell BG7.out.b hi1 y HGX.out.2
  clear hoc hod ho0 ho1 HS HXY HZZ HP8 HP0
  have iw : IntKind.i64.wrap ((i : Int) + 1) = (i : Int) + 1 := IntWalk.i64_in _ ⟨by omega, by omega⟩
  obtain ⟨BW, hBW⟩ : ∃ BW : World → Prop, BW = fun w' => Big w w' w7.heap.size (.slice At 256 ct) (.slice (some ⟨gb, 0, none⟩) n cb) (.slice (some ⟨gc, 0, none⟩) n cc) (.slice (some ⟨gd, 0, none⟩) n cd) n b (pre ++ y :: x :: post) (pre2 ++ zz :: post2) := ⟨_, rfl⟩
  have BA : Hid (∀ W o, BW W → BW (W.alloc o)) := by subst hBW; exact fun W o h => Big.alloc h o
  have BD : Hid (∀ W, BW W → BW W.drew) := by subst hBW; exact fun W h => Big.drew h
  have BB : Hid (∀ W w1, BW W → Below W.heap.size W w1 → BW w1) := by subst hBW; exact fun W w1 h k => Big.below h k
  have BF : Hid (∀ (W w1 : World) (v : Value), BW W → Frm (fun j => v.ownBlock = some j) W w1 → (∀ g, v.ownBlock = some g → w7.heap.size ≤ g) → BW w1) := by subst hBW; exact fun W w1 v h k hv => Big.frm h k hv sz7
  have Bt : Hid (∀ W, BW W → Sl W 1 (.slice At 256 ct) 256 (u32s (tabN 256))) := by subst hBW; exact fun W h => Big.t h
  have Bb : Hid (∀ W, BW W → Sl W 1 (.slice (some ⟨gb, 0, none⟩) n cb) n (u8s b)) := by subst hBW; exact fun W h => Big.b h
  have Bc : Hid (∀ W, BW W → Sl W 1 (.slice (some ⟨gc, 0, none⟩) n cc) n (u8s (pre ++ y :: x :: post))) := by subst hBW; exact fun W h => Big.c h
  have Bd : Hid (∀ W, BW W → Sl W 1 (.slice (some ⟨gd, 0, none⟩) n cd) n (u8s (pre2 ++ zz :: post2))) := by subst hBW; exact fun W h => Big.d h
  have Bk : Hid (∀ W, BW W → Below w.heap.size w W ∧ w.heap.size ≤ W.heap.size) := by subst hBW; exact fun W h => ⟨Big.k h, Big.s h⟩
  have Bz : Hid (∀ W, BW W → w7.heap.size ≤ W.heap.size) := by subst hBW; exact fun W h => Big.z h
  have G7 : Hid (BW w7) := by subst hBW; exact BG7.out
  have G : Hid (BW w7.drew) := by subst hBW; exact BG.out
  clear hBW BG BG7
  refine wp_region_inv (by kernel_rfl) 102 [0, 1, 7, 8, 9, 10] (by kernel_rfl) (by kernel_rfl) (II BW ([some (.slice (some ⟨gb, 0, none⟩) n cb), some (.int .i64 (i : Nat)), none, none, none, none, some (.bool true), some (.slice At 256 ct), some (.int .u32 (sb : Nat)), some (.slice (some ⟨gc, 0, none⟩) n cc), some (.slice (some ⟨gd, 0, none⟩) n cd), none, none, none, none, none, none, none, none, none, none, none, none, none, none, none, none, none, none, none, none, none, none, none, none, none, none, none, none, none, none, none, none, none, none, none, none, none, none, none, none, none, none, none, none, none, none, none, none, none, none, some (.slice At 256 ct), some (.slice (some ⟨gc, 0, none⟩) n cc), some (.int .u32 (oc : Nat)), some (.int .u32 (sb : Nat)), some (.bool ((x : Int) == (y : Int))), some (.slice (some ⟨gb, 0, none⟩) n cb), some (.int .i64 (i : Nat)), some (.pointer (some ⟨gb, i, none⟩)), some (.int .u8 (x : Nat)), some (.slice (some ⟨gb, 0, none⟩) n cb), some (.int .i64 (i : Nat)), some (.int .i64 ((i + 1 : Nat) : Int)), some (.pointer (some ⟨gb, i + 1, none⟩)), some (.int .u8 (y : Nat)), some (.bool ((x : Int) == (y : Int))), some (.bool true), some (.bool true), some (.slice At 256 ct), some (.slice (some ⟨gd, 0, none⟩) n cd), some (.int .u32 (od : Nat)), some (.int .u32 (sb : Nat)), some (.bool true), some (.bool true), some (.bool true), some (.slice At 256 ct), some (.slice (some ⟨gb, 0, none⟩) n cb), none, none, none, some (.int .u32 (o0 : Nat)), some (.slice At 256 ct), some (.slice (some ⟨gb, 0, none⟩) n cb), none, none, none, some (.int .u32 (o1 : Nat)), some (.bool true), some (.bool true), some (.bool true), some (.bool true), some (.bool true)] : List (Option Value)) w7.heap.size n b) ?_ ?_ ?_ ?_
  · exact parts_guards (ts := [77, 84, 99]) _ _ (by kernel_rfl) (fun t v ht hv => by
      simp only [List.mem_cons, List.not_mem_nil, or_false] at ht
      rcases ht with rfl | rfl | rfl <;> exact hv)
  · refine ⟨G.out, fun t v ht => ?_, JP.start _ _ _ _ (fun t ht => ?_)⟩
    · dsimp only at ht
      by_cases hc : ([0, 1, 7, 8, 9, 10] : List Tmp).contains t = true
      · rw [if_pos hc] at ht
        injection ht with ht
        rw [← ht]
        rcases (by simpa using hc : t = 0 ∨ t = 1 ∨ t = 7 ∨ t = 8 ∨ t = 9 ∨ t = 10) with rfl | rfl | rfl | rfl | rfl | rfl <;> rfl
      · rw [if_neg hc] at ht
        cases ht
    · dsimp only
      refine if_neg (fun hc => ?_)
      rcases (by simpa using hc : t = 0 ∨ t = 1 ∨ t = 7 ∨ t = 8 ∨ t = 9 ∨ t = 10) with rfl | rfl | rfl | rfl | rfl | rfl <;> exact absurd ht (by decide)
  · exact .cons (pi_move (fun _ h => h) (by decide) rfl) (
      .cons (pi_move (fun _ h => h) (by decide) rfl) (
      .cons (pi_of (m := n) (l := pre ++ y :: x :: post) (fun _ h => h) (fun _ h => h) Bt.out Bc.out HTL.out LC.out HC.out (by decide) rfl) (
      .cons (pi_move (fun _ h => h) (by decide) rfl) (
      .cons (pi_eql (k := .u32) (x := (oc : Int)) (y := (sb : Int)) (fun _ h => h) (fun _ h => h) r1 (by decide) rfl) (
      .cons (pi_move (fun _ h => h) (by decide) rfl) (
      .cons (pi_move (fun _ h => h) (by decide) rfl) (
      .cons (pi_index (gb := gb) (m := n) (c := cb) (i := i) (fun _ h => h) (fun _ h => h) (by omega) (by decide) rfl) (
      .cons (pi_load (gb := gb) (i := i) (u := .int .u8 (x : Nat)) (fun _ h => h) (fun w h => sl_cell (Bb.out _ h) (by omega) x HGX.out.1) rfl (by decide) rfl) (
      .cons (pi_move (fun _ h => h) (by decide) rfl) (
      .cons (pi_move (fun _ h => h) (by decide) rfl) (
      .cons (pi_add (x := (i : Int)) (fun _ h => h) iw (by decide) (by show Value.int _ _ = Value.int _ _; rw [Int.natCast_add]; rfl)) (
      .cons (pi_index (gb := gb) (m := n) (c := cb) (i := i + 1) (fun _ h => h) (fun _ h => h) (by omega) (by decide) rfl) (
      .cons (pi_load (gb := gb) (i := i + 1) (u := .int .u8 (y : Nat)) (fun _ h => h) (fun w h => sl_cell (Bb.out _ h) hi1 y HGX.out.2) rfl (by decide) rfl) (
      .cons (pi_eql (k := .u8) (x := (x : Int)) (y := (y : Int)) (fun _ h => h) (fun _ h => h) rfl (by decide) rfl) (
      .cons (pi_eqlb (x := ((x : Int) == (y : Int))) (y := ((x : Int) == (y : Int))) (q := true) (fun _ h => h) (fun _ h => h) (by simp) (by decide) rfl) (
      .cons (pi_move (fun _ h => h) (by decide) rfl) (
      .cons (pi_move (fun _ h => h) (by decide) rfl) (
      .cons (pi_move (fun _ h => h) (by decide) rfl) (
      .cons (pi_of (m := n) (l := pre2 ++ zz :: post2) (fun _ h => h) (fun _ h => h) Bt.out Bd.out HTL.out LD.out HD.out (by decide) rfl) (
      .cons (pi_move (fun _ h => h) (by decide) rfl) (
      .cons (pi_neq (k := .u32) (x := (od : Int)) (y := (sb : Int)) (fun _ h => h) (fun _ h => h) r2 (by decide) rfl) (
      .cons (pi_pick (x := true) (y := true) (fun _ h => h) (fun _ h => h) (by decide) rfl) (
      .cons (pi_move (fun _ h => h) (by decide) rfl) (
      .cons (pi_move (fun _ h => h) (by decide) rfl) (
      .cons (pi_move (fun _ h => h) (by decide) rfl) (
      .cons (pi_copy0 (fun _ h => h) Bb.out (by omega) (by omega) BB.out Bz.out (fun _ => trivial)) (
      .cons (pi_box0 BB.out (fun _ => trivial)) (
      .cons (pi_app0 BF.out Bz.out (fun _ => trivial) n2 (by omega) HI.out) (
      .cons (pi_of0 (fun _ h => h) Bt.out HTL.out L0.out H0.out rfl) (
      .cons (pi_move (fun _ h => h) (by decide) rfl) (
      .cons (pi_move (fun _ h => h) (by decide) rfl) (
      .cons (pi_copy1 (fun _ h => h) Bb.out (by omega) (by omega) BB.out Bz.out (fun _ => trivial) ⟨⟨29, .chain⟩, by simp, rfl, _, rfl, rfl⟩) (
      .cons (pi_box1 BB.out (fun _ => trivial)) (
      .cons (pi_app1 BF.out Bz.out (fun _ => trivial) n2 (by omega) HI.out) (
      .cons (pi_of1 (fun _ h => h) Bt.out HTL.out L1.out H1.out rfl) (
      .cons (pi_neq (k := .u32) (x := (o0 : Int)) (y := (o1 : Int)) (fun _ h => h) (fun _ h => h) r3 (by decide) rfl) (
      .cons (pi_pick (x := true) (y := true) (fun _ h => h) (fun _ h => h) (by decide) rfl) (
      .cons (pi_move (fun _ h => h) (by decide) rfl) (
      .cons (pi_wakes BB.out (by decide) rfl) (
      .cons (pi_pick (x := true) (y := true) (fun _ h => h) (fun _ h => h) (by decide) rfl) (
      .cons (pi_assign (fun _ h => h) (by decide) rfl) (.nil))))))))))))))))))))))))))))))))))))))))))
  · intro f w8 L sel hL hsel hI
    have hL2 : L = #[.slice (some ⟨gb, 0, none⟩) n cb, .int .i64 i, .int .i64 a2, undef, undef, undef, f 6, .slice At 256 ct, .int .u32 sb, .slice (some ⟨gc, 0, none⟩) n cc, .slice (some ⟨gd, 0, none⟩) n cd, .int .i64 k, .slice a0 len0 cap0, v1, .slice (some ⟨w1.heap.size, 0, none⟩) 2 2, .slice (some ⟨gb, 0, none⟩) n cb, .slice At 256 ct, .slice At 256 ct, .slice (some ⟨gb, 0, none⟩) n cb, .int .u32 sb, .int .i64 a1, .slice (some ⟨gb, 0, none⟩) n cb, .int .i64 n, .int .i64 (n - 1), .int .i64 i, .slice (some ⟨gb, 0, none⟩) n cb, .slice (some ⟨gc, 0, none⟩) n cc, .slice (some ⟨gc, 0, none⟩) n cc, .int .i64 i, .slice (some ⟨gc, 0, none⟩) n cc, .int .i64 i, .int .i64 (i + 1), .slice (some ⟨gc, 0, none⟩) n cc, .int .i64 i, .int .i64 (i + 1), .pointer (some ⟨gc, i + 1, none⟩), .int .u8 y, .slice (some ⟨gc, 0, none⟩) n cc, .int .i64 i, .pointer (some ⟨gc, i, none⟩), .int .u8 x, .pointer (some ⟨gc, i, none⟩), .pointer (some ⟨gc, i + 1, none⟩), .slice (some ⟨gb, 0, none⟩) n cb, .slice (some ⟨gd, 0, none⟩) n cd, .int .i64 a2, .slice (some ⟨gd, 0, none⟩) n cd, .int .i64 n, .int .i64 (8 * n), .int .i64 k, .slice (some ⟨gd, 0, none⟩) n cd, .int .i64 k, .int .i64 q, .pointer (some ⟨gd, q, none⟩), .int .u8 z, .int .i64 k, .int .i64 (k % 8), .int .u64 r, .int .u8 (2 ^ r % 256), .int .u8 zz, .pointer (some ⟨gd, q, none⟩), f 61, f 62, f 63, f 64, f 65, f 66, f 67, f 68, f 69, f 70, f 71, f 72, f 73, f 74, f 75, f 76, f 77, f 78, f 79, f 80, f 81, f 82, f 83, f 84, f 85, f 86, f 87, f 88, f 89, f 90, f 91, f 92, f 93, f 94, f 95, f 96, f 97, f 98, f 99, f 100, f 101] := hL.trans (by kernel_rfl)
    subst hL2
    obtain ⟨hBW, hok, _⟩ := hI
    have h6 : f 6 = .bool true := hok 6 _ (hsel 6 (by kernel_rfl))
    have hbel := (Bk.out _ hBW).1
    clear hL hsel hok hBW
    rw [h6]
    go_wp2_with fail
    go_ret
    exact ⟨rfl, hbel⟩

/-! ### THE ROW's STEP: WRITTEN OUT: LEAVE IT -/
set_option maxRecDepth 100000 in
theorem lifted (os : Os) (started : os.Started) (H : Type) (enc : TypeId × Value → H) :
    ReturnsInHanded {} Try.checked os 3 .any (Rows.sumPartsSpec.pre6 enc Try.prog Try.f3 Rows.sumPartsRow.domain false) (Rows.sumPartsSpec.post enc Try.prog Try.f3 false true false false) := by
  refine returnsInHanded_of_change (C := Try.checked) own started (by kernel_rfl) Try.func3
    (ChangeSpec.witness6 (enc := enc) (C := Try.checked) false ⟨#[], #[.slice none 0 0, .int .i64 0, .int .i64 0], []⟩ 8 (by kernel_rfl) (by kernel_rfl) (by kernel_rfl) (by kernel_rfl)) ?_
  intro W base args ds gs before hval0 hW hcnd _
  have hval : ∀ (j : Nat) t v, Try.f3.params[j]? = some t → args[j]? = some v → Value.okWide Try.prog W .any base t v := hval0
  have hW' := hW
  obtain ⟨p, q, hA0, hV, rfl, hfz, hnd⟩ := hW
  have hA : DataW.TrodAll enc Try.prog W 0 (fun _ => true) true Try.f3.params.toList args.toList ds p := hA0
  rw [Try.params3] at hA hval
  obtain ⟨v0, vs0, d0, ds0, p0, q0, hargs, rfl, rfl, h0, r0⟩ := trodAll_cons hA
  obtain ⟨v1, vs1, d1, ds1, p1, q1, rfl, rfl, rfl, h1, r1⟩ := trodAll_cons r0
  obtain ⟨v2, vs2, d2, ds2, p2, q2, rfl, rfl, rfl, h2, r2⟩ := trodAll_cons r1
  obtain ⟨rfl, rfl, rfl⟩ := trodAll_nil r2
  obtain rfl : args = #[v0, v1, v2] := by cases args; simp_all
  obtain ⟨rfl, rfl⟩ := trodVars_none hV
  obtain ⟨a0, len0, cap0, rfl⟩ := okWide_slice Try.underlying22 (hval 0 22 v0 rfl rfl)
  have k0 := h0
  have lt0 : ∀ x ∈ p0, x.block < W.heap.size := by obtain ⟨m, hm⟩ := k0; exact DataW.trod_lt m _ _ _ hm
  obtain ⟨z0, w0⟩ : ∃ zs, IsRow .u8 W a0 len0 cap0 zs := by
    obtain ⟨fuel, hf⟩ := h0
    rcases open_ints Try.underlying22 Try.underlying5 (by kernel_rfl) hf with ⟨hcs, _⟩ | ⟨x, l, c, zs, hcs, _, hl, hm, hz, _, hcell, hwz⟩
    · simp [Value.cells] at hcs
      obtain ⟨rfl, rfl, rfl⟩ := hcs
      exact ⟨[], .inl ⟨rfl, rfl, rfl, rfl⟩⟩
    · simp [Value.cells] at hcs
      obtain ⟨rfl, rfl, rfl⟩ := hcs
      exact ⟨zs, .inr ⟨_, rfl, hl, hm, by simpa using hz, hcell, hwz⟩⟩
  obtain ⟨a1, rfl, rfl, rfl, w1⟩ := open_int Try.underlying3 (hval 1 3 v1 rfl rfl) h1
  obtain ⟨a2, rfl, rfl, rfl, w2⟩ := open_int Try.underlying3 (hval 2 3 v2 rfl rfl) h2
  clear hA0 hval0
  refine (walk a0 len0 cap0 z0 a1 a2 W w0 w1 w2).mono fun e W' ⟨he, bel⟩ => ?_
  subst he
  exact ⟨_, rfl, _, _, _, [], _, [], hW', trodAll_mk1 (shut_bool Try.underlying4 _), (trodAll_cons_mk (Below.trod laidOut (by kernel_rfl) (of_decide_eq_true (by kernel_rfl)) k0 bel lt0) (trodAll_cons_mk (shut_int Try.underlying3 w1) (trodAll_cons_mk (shut_int Try.underlying3 w2) trodAll_mk0))), rfl, bel.frame _, fun h => by cases h⟩

theorem over : Rows.sumPartsRow.holds Try.pinned (OpenSpec.ofChange Rows.sumPartsSpec) :=
  OpenClaim.holds_of_wide 3 Try.f3 rfl rfl rfl rfl rfl rfl rfl ⟨rfl, rfl, rfl, rfl, rfl⟩ rfl rfl rfl rfl rfl (by kernel_rfl) Try.func3 (by kernel_rfl)
    (of_decide_eq_true (by kernel_rfl)) (by unfold Func.isWrapper; first | (rw [if_pos (by decide +kernel)]; kernel_rfl) | (rw [if_neg (by decide +kernel)]; exact ⟨rfl, rfl⟩))
    (fun os started H enc _ => lifted os started H enc)

/-- ████ THE STATEMENT ████ -/
theorem proved : Rows.SumPartsSaid := over
#print axioms proved
end Go.Proofs.Ytgcolhcajmbehaa.sumParts
