/- Proved: StorePlays returns true for every input, and leaves its argument as it was; no further condition. -/
import Derived.Test.YtfcagjnedaaadaaRows
import Derived.Test.YtfcagjnedaaadaaRt
import Derived.Test.YtfcagjnedaaadaaOa
import Derived.Test.YtfcagjnedaaadaaCm
import Derived.WalkKit
import Derived.ProofKit
import Derived.OpenShut
import Derived.ShutString
import Derived.ChangeOld
import Derived.Below
import Derived.Deep.DeepCutAuto
import Derived.Deep.CutBlock
import Derived.BigQuiet
namespace Go.Proofs.Ytfcagjnedaaadaa.storePlays
open Go.ChangeShapes Go.WideShapes Go.ChangeAt Go.RowKit
open Go.ChangeMaps (open_string shut_string)
set_option linter.unusedVariables false

theorem own : ownKnob Try.prog.godebug = none := by kernel_rfl
theorem laidOut : laidOutB Try.prog = true := by kernel_rfl

theorem start {w w1 : World} {gs bs : Nat} (g1 : w.heap.size ≤ gs) (b1 : w.heap.size ≤ bs) (hs : Sto w1 gs bs (fun _ => False) 0 0 ⟨fun _ => none, false, false, 0⟩) (hb : Below w.heap.size w w1) :
    Head w.heap.size w gs bs w1.heap.size 0 (w1.alloc (.cells #[.slice none 0 0, .bool false, .bool false, .int .i64 0] 44)) := by
  have gl := hs.glt
  have bl := hs.blt
  have sz := hb.size
  refine ⟨fun j => j = gs ∨ j = bs ∨ j = w1.heap.size, _, [], false, false, 0, ⟨fun j hj => ?_, fun j => j = gs ∨ j = bs, fun j => j = w1.heap.size, fun _ => False, fun _ => False, .slice none 0 0, hs.below ((Below.refl _ _).alloc (Nat.le_refl _) _), ⟨⟨[], Blk.new w1 #[.slice none 0 0, .bool false, .bool false, .int .i64 0] 44, World.ownsRow_nil _ _ _ _, rfl, fun i x u hi => (by simp at hi), fun j hj => (by cases hj)⟩, Nat.zero_le _, fun _ h => h.elim⟩, .inl rfl, .inr rfl, fun _ h => h.elim, rfl, fun _ h => h.elim, fun j hj => (by cases hj), ?_, ?_, ?_⟩, ⟨fun k => rfl, rfl, rfl, fun h => (by cases h), List.Pairwise.nil⟩, Nat.le_refl _, by omega, by omega, hb.alloc sz _⟩
  · show _ ∧ j < (w1.heap.push _).size
    rw [Array.size_push]
    rcases hj with rfl | rfl | rfl <;> omega
  · rintro j (rfl | rfl) e
    · omega
    · omega
  · rintro j (rfl | rfl)
    · exact .inl rfl
    · exact .inr (.inl rfl)
  · rintro j rfl
    exact .inr (.inr rfl)

theorem add_zero (a : Addr) : a.add 0 = a := by unfold Addr.add; simp
theorem add_pos (a : Addr) (j : Nat) (hj : j ≠ 0) : a.add j = ⟨a.block, a.off + j, none⟩ := by unfold Addr.add; simp [hj]

theorem actCells {W : World} {g : Nat} {a b c d : Value} (h : Blk W g #[a, b, c, d] 46) : W.cell? ⟨g, 0, none⟩ = some a ∧ W.cell? ⟨g, 1, none⟩ = some b ∧ W.cell? ⟨g, 2, none⟩ = some c ∧ W.cell? ⟨g, 3, none⟩ = some d :=
  ⟨h.cell 0, h.cell 1, h.cell 2, h.cell 3⟩
theorem sto_wide {w w' : World} {gs bs : Nat} {S : Nat → Prop} {M L : Nat} {st : St} (h : Sto w' gs bs S M L st) (g : gs < w.heap.size) (b : bs < w.heap.size) : Sto w' gs bs (fun j => S j ∨ w.heap.size ≤ j) M L st :=
  h.mono (fun _ h => .inl h) (fun j hj => by
    rcases hj with hj | hj
    · exact h.av j hj
    · exact ⟨by omega, by omega⟩) (Nat.le_refl _) (Nat.le_refl _)
theorem Ready.below {B : Nat} {w0 : World} {U : Nat → Prop} {gs bs gr M L : Nat} {st : St} {L' : Nat} {l : List (Int × Bk)} {dead armed : Bool} {N : Int} {vb : Value} {gl m : Nat} {bl : List Int} {W W' : World}
    (h : Ready B w0 U gs bs gr M L st L' l dead armed N vb gl m bl W) (k : Below W.heap.size W W') (hB : B ≤ W.heap.size) : Ready B w0 U gs bs gr M L st L' l dead armed N vb gl m bl W' :=
  ⟨h.two.below k, h.bel.trans (k.mono hB), h.b.below k, h.lent.below k, fun j hj => ⟨(h.bu j hj).1, Nat.lt_of_lt_of_le (h.bu j hj).2 k.size⟩, h.lu⟩
theorem hbelA {w W : World} (h : Below w.heap.size w W) (hB : w.heap.size ≤ W.heap.size) (o : Obj) : Below w.heap.size w (W.alloc o) := h.alloc hB o
theorem wf_mk {n : Int} (h1 : -9223372036854775808 ≤ n) (h2 : n ≤ 9223372036854775807) : (Lit.int .i64 n).wf = true := by
  simp [Lit.wf, IntKind.min, IntKind.max, IntKind.bits, IntKind.signed]
  omega

set_option maxHeartbeats 32000000 in
set_option maxRecDepth 100000 in
theorem walk (a0 : Option Addr) (len0 cap0 : Nat) (w : World) (w0 : IsActs w a0 len0 cap0) :
    Calls Try.prog 4 #[.slice a0 len0 cap0] w fun e w' => e = .returned (.bool true) ∧ Below w.heap.size w w' := by
  have hl0 : (len0 : Int) ≤ 9223372036854775807 := by
    rcases w0 with ⟨_, h, _⟩ | ⟨_, _, h1, h2, _⟩
    · omega
    · unfold maxLen at h2; omega
  have W0 := Lib.hid w0
  clear w0
  go_enter Try.func4, Try.ntmps4
  go_wp2_with fail
  refine (new_any _).mono ?_
  rintro e w1 ⟨gs, bs, rfl, g1, b1, hs, hb⟩
  have HD := Lib.hid (start g1 b1 hs hb)
  obtain ⟨gr, hgr⟩ : ∃ g, g = w1.heap.size := ⟨_, rfl⟩
  have hgr0 : w.heap.size ≤ gr := by rw [hgr]; exact hb.size
  clear hs hb g1 b1
  go_wp2_with fail
  obtain ⟨w2, hw2⟩ : ∃ W, W = w1.alloc (.cells #[.slice none 0 0, .bool false, .bool false, .int .i64 0] 44) := ⟨_, rfl⟩
  rw [← hgr, ← hw2] at HD
  rw [← hw2]
  (try rw [← hgr])
  clear hw2 hgr
  go_loopw [5] (fun i W => ∃ k : Nat, k ≤ 30 ∧ i = .int .i64 k ∧ Head w.heap.size w gs bs gr k W) (fun i _ => 30 - (intOf i).toNat)
  case atStart => exact ⟨0, Nat.zero_le _, rfl, HD.out⟩
  case round =>
    obtain ⟨k, hk, rfl, hH⟩ := hrel
    have iwk : IntKind.i64.wrap ((k : Int) + 1) = (k : Int) + 1 := IntWalk.i64_in _ ⟨by omega, by omega⟩
    by_cases hkl : k < len0
    · have j1 : (k : Int) < (len0 : Int) := by omega
      have j0 : (0 : Int) ≤ (k : Int) := by omega
      by_cases hk30 : k < 30
      · have j30 : (k : Int) < 30 := by omega
        obtain ⟨U, st, l, dead, armed, NN, ht, hr, hll, hn1, hn2, hbel⟩ := hH
        obtain ⟨a, rfl, hx⟩ : ∃ a, a0 = some a ∧ ∀ i, i < len0 → ∃ d b n A m c l, ActAt w (a.add (i * 4)) d b n A m c l := by
          rcases W0.out with ⟨_, h, _⟩ | ⟨a, e, _, _, h⟩
          · omega
          · exact ⟨a, e, h⟩
        obtain ⟨xd, xb, xn, Ax, mx_, cx, xl, hact⟩ := hx k hkl
        obtain ⟨c0, c1, c2, c3, wd, wb, wn, sx⟩ := hact.below rfl hbel
        rw [add_zero] at c0
        rw [add_pos _ _ (by omega)] at c1 c2 c3
        clear hx hact
        have T := Lib.hid ht
        have R := Lib.hid hr
        have BEL := Lib.hid hbel
        have SX := Lib.hid sx
        have WD := Lib.hid wd
        have WB := Lib.hid wb
        have WN := Lib.hid wn
        have hB : w.heap.size ≤ wr.heap.size := hbel.size
        clear ht hr hbel sx wd wb wn
        obtain ⟨h6, hh6⟩ : ∃ h, xb % 6 = h := ⟨_, rfl⟩
        have q6 : 0 ≤ h6 ∧ h6 < 6 := by omega
        obtain ⟨q7, hq7⟩ : ∃ h, xb.tmod 17 = h := ⟨_, rfl⟩
        have iw6 : IntKind.i64.wrap (h6 - 1) = h6 - 1 := IntWalk.i64_in _ ⟨by omega, by omega⟩
        have HH6 := Lib.hid hh6
        clear hh6
        go_upto_if 40 with (go_at_call 10; (with_reducible refine (within_any xb 6 _ (by omega) (by omega)).mono ?_); rintro e _ ⟨rfl, rfl⟩; rw [HH6.out])
        have bx := Blk.new wr #[.int .i64 xd, .int .i64 xb, .int .i64 xn, .slice Ax mx_ cx] 46
        have be := hbelA BEL.out hB (.cells #[.int .i64 xd, .int .i64 xb, .int .i64 xn, .slice Ax mx_ cx] 46)
        have tw := T.out.below ((Below.refl _ _).alloc (Nat.le_refl _) (.cells #[.int .i64 xd, .int .i64 xb, .int .i64 xn, .slice Ax mx_ cx] 46))
        have sx2 := SX.out.alloc (.cells #[.int .i64 xd, .int .i64 xb, .int .i64 xn, .slice Ax mx_ cx] 46)
        obtain ⟨g6, hg6⟩ : ∃ g, g = wr.heap.size := ⟨_, rfl⟩
        have ug6 : ¬ U g6 := fun h => by have := (T.out.u g6 h).2; omega
        obtain ⟨W1, hW1⟩ : ∃ W, W = wr.alloc (.cells #[.int .i64 xd, .int .i64 xb, .int .i64 xn, .slice Ax mx_ cx] 46) := ⟨_, rfl⟩
        rw [← hW1] at be tw bx sx2 ⊢
        rw [← hg6] at bx ⊢
        have x0 := bx.cell 0
        have x1 := bx.cell 1
        have x2 := bx.cell 2
        have x3 := bx.cell 3
        simp at x0 x1 x2 x3
        have T1 := Lib.hid tw
        have BEL1 := Lib.hid be
        have SX1 := Lib.hid sx2
        have BX := Lib.hid bx
        have hB1 : w.heap.size ≤ W1.heap.size := be.size
        have hg61 : g6 < W1.heap.size := bx.lt
        clear T BEL SX hW1 hg6 be tw sx2 bx hB c0 c1 c2 c3
        go_cut [7] (fun s7 wx => ∃ n : Int, s7 = .int .i64 n ∧ (Lit.int .i64 n).wf = true ∧ wx = W1)
        case first =>
          go_wp2_with fail
          all_goals go_meet
          · exact ⟨xb, rfl, WB.out, rfl⟩
          · exact ⟨h6 - 1, rfl, wf_mk (by omega) (by omega), rfl⟩
        case rest =>
          obtain ⟨n, rfl, hwn, hwc⟩ := hcut
          obtain rfl : W1 = wc := hwc.symm
          have HWN := Lib.hid hwn
          clear hwn iw6 hq7
          go_wp2_with fail
          refine (cutb_any W1 _ mx_ (u8s xl) 20 SX1.out (by omega)).mono ?_
          rintro e w3 ⟨vb, rfl, ho3, hb3⟩
          obtain ⟨m, hm⟩ : ∃ m, m = min mx_ 20 := ⟨_, rfl⟩
          obtain ⟨bl, hbl⟩ : ∃ bl, bl = xl.take 20 := ⟨_, rfl⟩
          have hm20 : m ≤ 20 := by omega
          rw [← hm, u8s_take, ← hbl] at ho3
          obtain ⟨Ab, cb, rfl⟩ := own_slice' ho3
          have hbm : bl.length = m := sl_len (Sl.of_own ho3 (u8s_one _))
          have hbu : ∀ j, (Value.slice Ab m cb).ownBlock = some j → ¬ U j ∧ j < w3.heap.size := fun j hj => ⟨fun h => by have := (ho3.lt j hj).1; have := (T1.out.u j h).2; omega, (ho3.lt j hj).2⟩
          have HBM := Lib.hid hbm
          have SB := Lib.hid (Sl.of_own ho3 (u8s_one _))
          have BEL3 := Lib.hid (BEL1.out.trans (hb3.mono hB1))
          have T3 := Lib.hid (T1.out.below hb3)
          have BX3 := Lib.hid (BX.out.below hb3)
          have HBU := Lib.hid hbu
          have hB3 : w.heap.size ≤ w3.heap.size := Nat.le_trans hB1 hb3.size
          clear ho3 hb3 hm hbl hbm hbu x0 x1 x2 x3
          go_wp2_with fail
          refine (lend_any w3 Ab m cb bl SB.out (by omega)).mono ?_
          rintro e w4 ⟨gl, rfl, hgl, hbk, hb4⟩
          have RD : Hid (Ready w.heap.size w U gs bs gr k (20 * k) st (20 * k) l dead armed NN (.slice Ab m cb) gl m bl w4) := Lib.hid ⟨T3.out.below hb4, BEL3.out.trans (hb4.mono hB3), SB.out.below hb4, hbk, fun j hj => ⟨(HBU.out j hj).1, Nat.lt_of_lt_of_le (HBU.out j hj).2 hb4.size⟩, fun h => by have := (T3.out.u gl h).2; omega⟩
          have BX4 := Lib.hid (BX3.out.below hb4)
          have hB4 : w.heap.size ≤ w4.heap.size := Nat.le_trans hB3 hb4.size
          clear hbk hb4 hgl
          obtain ⟨z0, z1, z2, z3⟩ := actCells BX4.out
          obtain ⟨kk, hkk⟩ : ∃ h, xd % 15 = h := ⟨_, rfl⟩
          have hk0 : 0 ≤ kk ∧ kk < 15 := by omega
          have HKK := Lib.hid hkk
          clear hkk
          go_upto_block 2 with (go_at_call 10; (with_reducible refine (within_any xd 15 _ (by omega) (by omega)).mono ?_); rintro e _ ⟨rfl, rfl⟩; rw [HKK.out])
          go_cut [10, 11] (fun s10 s11 wx => ∃ r : Int, s10 = .int .i64 r ∧ s11 = .int .i64 r ∧ Done w.heap.size w gs bs gr (k + 1) (.slice Ab m cb) gl m bl wx)
          case first =>
            have hlne : ∀ j, (Value.slice (some ⟨gl, 0, none⟩) m (m + 3)).ownBlock = some j → j ≠ gs := fun j hj e => by
              injection hj with hj
              simp only at hj
              subst hj
              exact RD.out.lu (e ▸ RD.out.two.ne.1)
            have HLNE := Lib.hid hlne
            clear hlne
            obtain rfl | rfl | rfl | rfl | rfl | rfl | rfl | rfl | rfl | rfl | rfl | rfl | rfl | rfl | rfl : kk = 0 ∨ kk = 1 ∨ kk = 2 ∨ kk = 3 ∨ kk = 4 ∨ kk = 5 ∨ kk = 6 ∨ kk = 7 ∨ kk = 8 ∨ kk = 9 ∨ kk = 10 ∨ kk = 11 ∨ kk = 12 ∨ kk = 13 ∨ kk = 14 := by omega
            · obtain ⟨S1, hs1, hk1⟩ := RD.out.two.prog
              have HS1 := Lib.hid hs1
              have HK1 := Lib.hid hk1
              clear hs1 hk1
              obtain ⟨r, st2, hs'⟩ : ∃ r st2, appS st n bl = (r, st2) := ⟨_, _, rfl⟩
              have HS := Lib.hid hs'
              clear hs'
              go_wp2_with fail
              refine (app_any gs bs S1 k (20 * k) st n w4 HS1.out HWN.out (some ⟨gl, 0, none⟩) m (m + 3) bl (Ready.lentSl RD.out.lent HBM.out (by omega)) (by unfold maxLen; omega) (by omega) (by omega) HLNE.out r st2 HS.out).mono ?_
              rintro e w5 ⟨rfl, h1, h2⟩
              obtain ⟨t5, f5⟩ := HK1.out w5 _ _ _ h1 h2
              have RD5 := Lib.hid (RD.out.next f5 t5 hB4)
              have hB5 : w.heap.size ≤ w5.heap.size := Nat.le_trans hB4 f5.size
              obtain ⟨y0, y1, y2, y3⟩ := actCells (BX4.out.frm f5 ug6)
              clear t5 f5 h1 h2
              obtain ⟨S2, v2, hr2, hk2⟩ := RD5.out.two.refr
              have HR2 := Lib.hid hr2
              have HK2 := Lib.hid hk2
              clear hr2 hk2
              go_wp2_with fail
              refine (rapp_any HR2.out R.out hll (by omega) (by omega) hn1 hn2 n HWN.out Ab m cb bl RD5.out.b (by omega) (fun j hj e => (RD5.out.bu j hj).1 (e ▸ RD5.out.two.ne.2)) r st2 HS.out).mono ?_
              rintro e w6 ⟨rfl, hout⟩
              obtain ⟨l2, d2, a2, N2, t6, r6, l6, n6, n6', f6⟩ := HK2.out w6 _ _ _ hout
              have RD6 := RD5.out.next f6 t6 hB5
              have DN : Hid (Done w.heap.size w gs bs gr (k + 1) (.slice Ab m cb) gl m bl w6) := Lib.hid ⟨_, _, _, _, _, _, RD6.two.big (by omega) (by omega) (by omega), r6, l6, n6, n6', RD6.bel, RD6.b, RD6.lent⟩
              clear RD6 t6 r6 f6 hout
              go_wp2_with fail
              go_meet
              exact ⟨_, rfl, rfl, DN.out⟩
            · obtain ⟨S1, hs1, hk1⟩ := RD.out.two.prog
              have HS1 := Lib.hid hs1
              have HK1 := Lib.hid hk1
              clear hs1 hk1
              obtain ⟨r, st2, hs'⟩ : ∃ r st2, appS st n bl = (r, st2) := ⟨_, _, rfl⟩
              have HS := Lib.hid hs'
              clear hs'
              go_wp2_with fail
              refine (app_any gs bs S1 k (20 * k) st n w4 HS1.out HWN.out (some ⟨gl, 0, none⟩) m (m + 3) bl (Ready.lentSl RD.out.lent HBM.out (by omega)) (by unfold maxLen; omega) (by omega) (by omega) HLNE.out r st2 HS.out).mono ?_
              rintro e w5 ⟨rfl, h1, h2⟩
              obtain ⟨t5, f5⟩ := HK1.out w5 _ _ _ h1 h2
              have RD5 := Lib.hid (RD.out.next f5 t5 hB4)
              have hB5 : w.heap.size ≤ w5.heap.size := Nat.le_trans hB4 f5.size
              obtain ⟨y0, y1, y2, y3⟩ := actCells (BX4.out.frm f5 ug6)
              clear t5 f5 h1 h2
              obtain ⟨S2, v2, hr2, hk2⟩ := RD5.out.two.refr
              have HR2 := Lib.hid hr2
              have HK2 := Lib.hid hk2
              clear hr2 hk2
              go_wp2_with fail
              refine (rapp_any HR2.out R.out hll (by omega) (by omega) hn1 hn2 n HWN.out Ab m cb bl RD5.out.b (by omega) (fun j hj e => (RD5.out.bu j hj).1 (e ▸ RD5.out.two.ne.2)) r st2 HS.out).mono ?_
              rintro e w6 ⟨rfl, hout⟩
              obtain ⟨l2, d2, a2, N2, t6, r6, l6, n6, n6', f6⟩ := HK2.out w6 _ _ _ hout
              have RD6 := RD5.out.next f6 t6 hB5
              have DN : Hid (Done w.heap.size w gs bs gr (k + 1) (.slice Ab m cb) gl m bl w6) := Lib.hid ⟨_, _, _, _, _, _, RD6.two.big (by omega) (by omega) (by omega), r6, l6, n6, n6', RD6.bel, RD6.b, RD6.lent⟩
              clear RD6 t6 r6 f6 hout
              go_wp2_with fail
              go_meet
              exact ⟨_, rfl, rfl, DN.out⟩
            · obtain ⟨S1, hs1, hk1⟩ := RD.out.two.prog
              have HS1 := Lib.hid hs1
              have HK1 := Lib.hid hk1
              clear hs1 hk1
              obtain ⟨r, st2, hs'⟩ : ∃ r st2, appS st n bl = (r, st2) := ⟨_, _, rfl⟩
              have HS := Lib.hid hs'
              clear hs'
              go_wp2_with fail
              refine (app_any gs bs S1 k (20 * k) st n w4 HS1.out HWN.out (some ⟨gl, 0, none⟩) m (m + 3) bl (Ready.lentSl RD.out.lent HBM.out (by omega)) (by unfold maxLen; omega) (by omega) (by omega) HLNE.out r st2 HS.out).mono ?_
              rintro e w5 ⟨rfl, h1, h2⟩
              obtain ⟨t5, f5⟩ := HK1.out w5 _ _ _ h1 h2
              have RD5 := Lib.hid (RD.out.next f5 t5 hB4)
              have hB5 : w.heap.size ≤ w5.heap.size := Nat.le_trans hB4 f5.size
              obtain ⟨y0, y1, y2, y3⟩ := actCells (BX4.out.frm f5 ug6)
              clear t5 f5 h1 h2
              obtain ⟨S2, v2, hr2, hk2⟩ := RD5.out.two.refr
              have HR2 := Lib.hid hr2
              have HK2 := Lib.hid hk2
              clear hr2 hk2
              go_wp2_with fail
              refine (rapp_any HR2.out R.out hll (by omega) (by omega) hn1 hn2 n HWN.out Ab m cb bl RD5.out.b (by omega) (fun j hj e => (RD5.out.bu j hj).1 (e ▸ RD5.out.two.ne.2)) r st2 HS.out).mono ?_
              rintro e w6 ⟨rfl, hout⟩
              obtain ⟨l2, d2, a2, N2, t6, r6, l6, n6, n6', f6⟩ := HK2.out w6 _ _ _ hout
              have RD6 := RD5.out.next f6 t6 hB5
              have DN : Hid (Done w.heap.size w gs bs gr (k + 1) (.slice Ab m cb) gl m bl w6) := Lib.hid ⟨_, _, _, _, _, _, RD6.two.big (by omega) (by omega) (by omega), r6, l6, n6, n6', RD6.bel, RD6.b, RD6.lent⟩
              clear RD6 t6 r6 f6 hout
              go_wp2_with fail
              go_meet
              exact ⟨_, rfl, rfl, DN.out⟩
            · obtain ⟨S1, hs1, hk1⟩ := RD.out.two.prog
              have HS1 := Lib.hid hs1
              have HK1 := Lib.hid hk1
              clear hs1 hk1
              obtain ⟨r, st2, hs'⟩ : ∃ r st2, appS st n bl = (r, st2) := ⟨_, _, rfl⟩
              have HS := Lib.hid hs'
              clear hs'
              go_wp2_with fail
              refine (app_any gs bs S1 k (20 * k) st n w4 HS1.out HWN.out (some ⟨gl, 0, none⟩) m (m + 3) bl (Ready.lentSl RD.out.lent HBM.out (by omega)) (by unfold maxLen; omega) (by omega) (by omega) HLNE.out r st2 HS.out).mono ?_
              rintro e w5 ⟨rfl, h1, h2⟩
              obtain ⟨t5, f5⟩ := HK1.out w5 _ _ _ h1 h2
              have RD5 := Lib.hid (RD.out.next f5 t5 hB4)
              have hB5 : w.heap.size ≤ w5.heap.size := Nat.le_trans hB4 f5.size
              obtain ⟨y0, y1, y2, y3⟩ := actCells (BX4.out.frm f5 ug6)
              clear t5 f5 h1 h2
              obtain ⟨S2, v2, hr2, hk2⟩ := RD5.out.two.refr
              have HR2 := Lib.hid hr2
              have HK2 := Lib.hid hk2
              clear hr2 hk2
              go_wp2_with fail
              refine (rapp_any HR2.out R.out hll (by omega) (by omega) hn1 hn2 n HWN.out Ab m cb bl RD5.out.b (by omega) (fun j hj e => (RD5.out.bu j hj).1 (e ▸ RD5.out.two.ne.2)) r st2 HS.out).mono ?_
              rintro e w6 ⟨rfl, hout⟩
              obtain ⟨l2, d2, a2, N2, t6, r6, l6, n6, n6', f6⟩ := HK2.out w6 _ _ _ hout
              have RD6 := RD5.out.next f6 t6 hB5
              have DN : Hid (Done w.heap.size w gs bs gr (k + 1) (.slice Ab m cb) gl m bl w6) := Lib.hid ⟨_, _, _, _, _, _, RD6.two.big (by omega) (by omega) (by omega), r6, l6, n6, n6', RD6.bel, RD6.b, RD6.lent⟩
              clear RD6 t6 r6 f6 hout
              go_wp2_with fail
              go_meet
              exact ⟨_, rfl, rfl, DN.out⟩
            · obtain ⟨S1, hs1, hk1⟩ := RD.out.two.prog
              have HS1 := Lib.hid hs1
              have HK1 := Lib.hid hk1
              clear hs1 hk1
              obtain ⟨r, st2, hs'⟩ : ∃ r st2, appS st n bl = (r, st2) := ⟨_, _, rfl⟩
              have HS := Lib.hid hs'
              clear hs'
              go_wp2_with fail
              refine (app_any gs bs S1 k (20 * k) st n w4 HS1.out HWN.out (some ⟨gl, 0, none⟩) m (m + 3) bl (Ready.lentSl RD.out.lent HBM.out (by omega)) (by unfold maxLen; omega) (by omega) (by omega) HLNE.out r st2 HS.out).mono ?_
              rintro e w5 ⟨rfl, h1, h2⟩
              obtain ⟨t5, f5⟩ := HK1.out w5 _ _ _ h1 h2
              have RD5 := Lib.hid (RD.out.next f5 t5 hB4)
              have hB5 : w.heap.size ≤ w5.heap.size := Nat.le_trans hB4 f5.size
              obtain ⟨y0, y1, y2, y3⟩ := actCells (BX4.out.frm f5 ug6)
              clear t5 f5 h1 h2
              obtain ⟨S2, v2, hr2, hk2⟩ := RD5.out.two.refr
              have HR2 := Lib.hid hr2
              have HK2 := Lib.hid hk2
              clear hr2 hk2
              go_wp2_with fail
              refine (rapp_any HR2.out R.out hll (by omega) (by omega) hn1 hn2 n HWN.out Ab m cb bl RD5.out.b (by omega) (fun j hj e => (RD5.out.bu j hj).1 (e ▸ RD5.out.two.ne.2)) r st2 HS.out).mono ?_
              rintro e w6 ⟨rfl, hout⟩
              obtain ⟨l2, d2, a2, N2, t6, r6, l6, n6, n6', f6⟩ := HK2.out w6 _ _ _ hout
              have RD6 := RD5.out.next f6 t6 hB5
              have DN : Hid (Done w.heap.size w gs bs gr (k + 1) (.slice Ab m cb) gl m bl w6) := Lib.hid ⟨_, _, _, _, _, _, RD6.two.big (by omega) (by omega) (by omega), r6, l6, n6, n6', RD6.bel, RD6.b, RD6.lent⟩
              clear RD6 t6 r6 f6 hout
              go_wp2_with fail
              go_meet
              exact ⟨_, rfl, rfl, DN.out⟩
            · obtain ⟨S1, hs1, hk1⟩ := RD.out.two.prog
              have HS1 := Lib.hid hs1
              have HK1 := Lib.hid hk1
              clear hs1 hk1
              obtain ⟨r, st2, hs'⟩ : ∃ r st2, syncS st n = (r, st2) := ⟨_, _, rfl⟩
              have HS := Lib.hid hs'
              clear hs'
              go_wp2_with fail
              refine (sync_any gs bs S1 k (20 * k) st n w4 HS1.out HWN.out (by unfold maxLen; omega) r st2 HS.out).mono ?_
              rintro e w5 ⟨rfl, h1, h2⟩
              obtain ⟨t5, f5⟩ := HK1.out w5 _ _ _ h1 h2
              have RD5 := Lib.hid (RD.out.next f5 t5 hB4)
              have hB5 : w.heap.size ≤ w5.heap.size := Nat.le_trans hB4 f5.size
              obtain ⟨y0, y1, y2, y3⟩ := actCells (BX4.out.frm f5 ug6)
              clear t5 f5 h1 h2
              obtain ⟨S2, v2, hr2, hk2⟩ := RD5.out.two.refr
              have HR2 := Lib.hid hr2
              have HK2 := Lib.hid hk2
              clear hr2 hk2
              go_wp2_with fail
              refine (rsync_any HR2.out R.out hll (by omega) hn1 hn2 n r st2 HS.out).mono ?_
              rintro e w6 ⟨rfl, hout⟩
              obtain ⟨l2, d2, a2, N2, t6, r6, l6, n6, n6', f6⟩ := HK2.out w6 _ _ _ hout
              have RD6 := RD5.out.next f6 t6 hB5
              have DN : Hid (Done w.heap.size w gs bs gr (k + 1) (.slice Ab m cb) gl m bl w6) := Lib.hid ⟨_, _, _, _, _, _, RD6.two.big (by omega) (by omega) (by omega), r6, l6, n6, n6', RD6.bel, RD6.b, RD6.lent⟩
              clear RD6 t6 r6 f6 hout
              go_wp2_with fail
              go_meet
              exact ⟨_, rfl, rfl, DN.out⟩
            · obtain ⟨S1, hs1, hk1⟩ := RD.out.two.prog
              have HS1 := Lib.hid hs1
              have HK1 := Lib.hid hk1
              clear hs1 hk1
              obtain ⟨r, st2, hs'⟩ : ∃ r st2, syncS st n = (r, st2) := ⟨_, _, rfl⟩
              have HS := Lib.hid hs'
              clear hs'
              go_wp2_with fail
              refine (sync_any gs bs S1 k (20 * k) st n w4 HS1.out HWN.out (by unfold maxLen; omega) r st2 HS.out).mono ?_
              rintro e w5 ⟨rfl, h1, h2⟩
              obtain ⟨t5, f5⟩ := HK1.out w5 _ _ _ h1 h2
              have RD5 := Lib.hid (RD.out.next f5 t5 hB4)
              have hB5 : w.heap.size ≤ w5.heap.size := Nat.le_trans hB4 f5.size
              obtain ⟨y0, y1, y2, y3⟩ := actCells (BX4.out.frm f5 ug6)
              clear t5 f5 h1 h2
              obtain ⟨S2, v2, hr2, hk2⟩ := RD5.out.two.refr
              have HR2 := Lib.hid hr2
              have HK2 := Lib.hid hk2
              clear hr2 hk2
              go_wp2_with fail
              refine (rsync_any HR2.out R.out hll (by omega) hn1 hn2 n r st2 HS.out).mono ?_
              rintro e w6 ⟨rfl, hout⟩
              obtain ⟨l2, d2, a2, N2, t6, r6, l6, n6, n6', f6⟩ := HK2.out w6 _ _ _ hout
              have RD6 := RD5.out.next f6 t6 hB5
              have DN : Hid (Done w.heap.size w gs bs gr (k + 1) (.slice Ab m cb) gl m bl w6) := Lib.hid ⟨_, _, _, _, _, _, RD6.two.big (by omega) (by omega) (by omega), r6, l6, n6, n6', RD6.bel, RD6.b, RD6.lent⟩
              clear RD6 t6 r6 f6 hout
              go_wp2_with fail
              go_meet
              exact ⟨_, rfl, rfl, DN.out⟩
            · obtain ⟨S1, hs1, hk1⟩ := RD.out.two.prog
              have HS1 := Lib.hid hs1
              have HK1 := Lib.hid hk1
              clear hs1 hk1
              obtain ⟨h30, hh30⟩ : ∃ h, xn % 30 = h := ⟨_, rfl⟩
              have q30 : 0 ≤ h30 ∧ h30 < 30 := by omega
              have HH30 := Lib.hid hh30
              have iw30 : IntKind.i64.wrap (h30 - 1) = h30 - 1 := IntWalk.i64_in _ ⟨by omega, by omega⟩
              obtain ⟨q9, hq9⟩ : ∃ h, xn.tmod 9 = h := ⟨_, rfl⟩
              clear hh30
              go_upto_if 93 with (go_at_call 10; (with_reducible refine (within_any xn 30 _ (by omega) (by omega)).mono ?_); rintro e _ ⟨rfl, rfl⟩; rw [HH30.out])
              go_cut [12] (fun s12 wx => ∃ tt : Int, s12 = .int .i64 tt ∧ wx = w4)
              case first =>
                go_wp2_with fail
                all_goals go_meet
                · exact ⟨xn, rfl, rfl⟩
                · exact ⟨h30 - 1, rfl, rfl⟩
              case rest =>
              obtain ⟨tt, rfl, hwc⟩ := hcut
              obtain rfl : w4 = wc := hwc.symm
              obtain ⟨r, st2, hs'⟩ : ∃ r st2, cutS st n tt = (r, st2) := ⟨_, _, rfl⟩
              have HS := Lib.hid hs'
              clear hs'
              go_wp2_with fail
              refine (cut_any gs bs S1 k (20 * k) st n tt w4 HS1.out HWN.out (by unfold maxLen; omega) (by omega) r st2 HS.out).mono ?_
              rintro e w5 ⟨rfl, h1, h2⟩
              obtain ⟨t5, f5⟩ := HK1.out w5 _ _ _ h1 h2
              have RD5 := Lib.hid (RD.out.next f5 t5 hB4)
              have hB5 : w.heap.size ≤ w5.heap.size := Nat.le_trans hB4 f5.size
              obtain ⟨y0, y1, y2, y3⟩ := actCells (BX4.out.frm f5 ug6)
              clear t5 f5 h1 h2
              obtain ⟨S2, v2, hr2, hk2⟩ := RD5.out.two.refr
              have HR2 := Lib.hid hr2
              have HK2 := Lib.hid hk2
              clear hr2 hk2
              go_wp2_with fail
              refine (rcut_any HR2.out R.out hll (by omega) (by omega) hn1 hn2 n tt r st2 HS.out).mono ?_
              rintro e w6 ⟨rfl, hout⟩
              obtain ⟨l2, d2, a2, N2, t6, r6, l6, n6, n6', f6⟩ := HK2.out w6 _ _ _ hout
              have RD6 := RD5.out.next f6 t6 hB5
              have DN : Hid (Done w.heap.size w gs bs gr (k + 1) (.slice Ab m cb) gl m bl w6) := Lib.hid ⟨_, _, _, _, _, _, RD6.two.big (by omega) (by omega) (by omega), r6, l6, n6, n6', RD6.bel, RD6.b, RD6.lent⟩
              clear RD6 t6 r6 f6 hout
              go_wp2_with fail
              go_meet
              exact ⟨_, rfl, rfl, DN.out⟩
            · obtain ⟨S1, hs1, hk1⟩ := RD.out.two.prog
              have HS1 := Lib.hid hs1
              have HK1 := Lib.hid hk1
              clear hs1 hk1
              obtain ⟨h30, hh30⟩ : ∃ h, xn % 30 = h := ⟨_, rfl⟩
              have q30 : 0 ≤ h30 ∧ h30 < 30 := by omega
              have HH30 := Lib.hid hh30
              have iw30 : IntKind.i64.wrap (h30 - 1) = h30 - 1 := IntWalk.i64_in _ ⟨by omega, by omega⟩
              obtain ⟨q9, hq9⟩ : ∃ h, xn.tmod 9 = h := ⟨_, rfl⟩
              clear hh30
              go_upto_if 93 with (go_at_call 10; (with_reducible refine (within_any xn 30 _ (by omega) (by omega)).mono ?_); rintro e _ ⟨rfl, rfl⟩; rw [HH30.out])
              go_cut [12] (fun s12 wx => ∃ tt : Int, s12 = .int .i64 tt ∧ wx = w4)
              case first =>
                go_wp2_with fail
                all_goals go_meet
                · exact ⟨xn, rfl, rfl⟩
                · exact ⟨h30 - 1, rfl, rfl⟩
              case rest =>
              obtain ⟨tt, rfl, hwc⟩ := hcut
              obtain rfl : w4 = wc := hwc.symm
              obtain ⟨r, st2, hs'⟩ : ∃ r st2, cutS st n tt = (r, st2) := ⟨_, _, rfl⟩
              have HS := Lib.hid hs'
              clear hs'
              go_wp2_with fail
              refine (cut_any gs bs S1 k (20 * k) st n tt w4 HS1.out HWN.out (by unfold maxLen; omega) (by omega) r st2 HS.out).mono ?_
              rintro e w5 ⟨rfl, h1, h2⟩
              obtain ⟨t5, f5⟩ := HK1.out w5 _ _ _ h1 h2
              have RD5 := Lib.hid (RD.out.next f5 t5 hB4)
              have hB5 : w.heap.size ≤ w5.heap.size := Nat.le_trans hB4 f5.size
              obtain ⟨y0, y1, y2, y3⟩ := actCells (BX4.out.frm f5 ug6)
              clear t5 f5 h1 h2
              obtain ⟨S2, v2, hr2, hk2⟩ := RD5.out.two.refr
              have HR2 := Lib.hid hr2
              have HK2 := Lib.hid hk2
              clear hr2 hk2
              go_wp2_with fail
              refine (rcut_any HR2.out R.out hll (by omega) (by omega) hn1 hn2 n tt r st2 HS.out).mono ?_
              rintro e w6 ⟨rfl, hout⟩
              obtain ⟨l2, d2, a2, N2, t6, r6, l6, n6, n6', f6⟩ := HK2.out w6 _ _ _ hout
              have RD6 := RD5.out.next f6 t6 hB5
              have DN : Hid (Done w.heap.size w gs bs gr (k + 1) (.slice Ab m cb) gl m bl w6) := Lib.hid ⟨_, _, _, _, _, _, RD6.two.big (by omega) (by omega) (by omega), r6, l6, n6, n6', RD6.bel, RD6.b, RD6.lent⟩
              clear RD6 t6 r6 f6 hout
              go_wp2_with fail
              go_meet
              exact ⟨_, rfl, rfl, DN.out⟩
            · obtain ⟨S1, hs1, hk1⟩ := RD.out.two.prog
              have HS1 := Lib.hid hs1
              have HK1 := Lib.hid hk1
              clear hs1 hk1
              obtain ⟨r, st2, hs'⟩ : ∃ r st2, dropS st n = (r, st2) := ⟨_, _, rfl⟩
              have HS := Lib.hid hs'
              clear hs'
              go_wp2_with fail
              refine (drop_any gs bs S1 k (20 * k) st n w4 HS1.out HWN.out r st2 HS.out).mono ?_
              rintro e w5 ⟨rfl, h1, h2⟩
              obtain ⟨t5, f5⟩ := HK1.out w5 _ _ _ h1 h2
              have RD5 := Lib.hid (RD.out.next f5 t5 hB4)
              have hB5 : w.heap.size ≤ w5.heap.size := Nat.le_trans hB4 f5.size
              obtain ⟨y0, y1, y2, y3⟩ := actCells (BX4.out.frm f5 ug6)
              clear t5 f5 h1 h2
              obtain ⟨S2, v2, hr2, hk2⟩ := RD5.out.two.refr
              have HR2 := Lib.hid hr2
              have HK2 := Lib.hid hk2
              clear hr2 hk2
              go_wp2_with fail
              refine (rdrop_any HR2.out R.out hll (by omega) hn1 hn2 n r st2 HS.out).mono ?_
              rintro e w6 ⟨rfl, hout⟩
              obtain ⟨l2, d2, a2, N2, t6, r6, l6, n6, n6', f6⟩ := HK2.out w6 _ _ _ hout
              have RD6 := RD5.out.next f6 t6 hB5
              have DN : Hid (Done w.heap.size w gs bs gr (k + 1) (.slice Ab m cb) gl m bl w6) := Lib.hid ⟨_, _, _, _, _, _, RD6.two.big (by omega) (by omega) (by omega), r6, l6, n6, n6', RD6.bel, RD6.b, RD6.lent⟩
              clear RD6 t6 r6 f6 hout
              go_wp2_with fail
              go_meet
              exact ⟨_, rfl, rfl, DN.out⟩
            · obtain ⟨S1, hs1, hk1⟩ := RD.out.two.prog
              have HS1 := Lib.hid hs1
              have HK1 := Lib.hid hk1
              clear hs1 hk1
              obtain ⟨q, hq⟩ : ∃ q, xn.tmod 6 = q := ⟨_, rfl⟩
              have hq1 : q ≤ 5 := by have := Int.tmod_lt_of_pos xn (b := 6) (by omega); omega
              have hq0 : -5 ≤ q := by have := Int.lt_tmod_of_pos xn (b := 6) (by omega); omega
              obtain ⟨ql, hql⟩ : ∃ t, mx 0 q = t := ⟨_, rfl⟩
              have HQL := Lib.hid hql
              clear hql
              go_wp2_with fail
              refine (fuse_any gs bs S1 k (20 * k) st q ql (wf_mk (by omega) (by omega)) HQL.out w4 HS1.out).mono ?_
              rintro e w5 ⟨rfl, h1, h2⟩
              obtain ⟨t5, f5⟩ := HK1.out w5 _ _ _ (sto_wide h1 HS1.out.glt HS1.out.blt) (h2.mono (fun _ h => .inl h))
              have RD5 := Lib.hid (RD.out.next f5 t5 hB4)
              have hB5 : w.heap.size ≤ w5.heap.size := Nat.le_trans hB4 f5.size
              obtain ⟨y0, y1, y2, y3⟩ := actCells (BX4.out.frm f5 ug6)
              clear t5 f5 h1 h2
              obtain ⟨S2, v2, hr2, hk2⟩ := RD5.out.two.refr
              have HR2 := Lib.hid hr2
              have HK2 := Lib.hid hk2
              clear hr2 hk2
              go_wp2_with fail
              refine (rfuse_out HR2.out R.out hll q ql HQL.out hq1).mono ?_
              rintro e w6 ⟨rfl, hout⟩
              obtain ⟨l2, d2, a2, N2, t6, r6, l6, n6, n6', f6⟩ := HK2.out w6 _ _ _ hout
              have RD6 := RD5.out.next f6 t6 hB5
              have DN : Hid (Done w.heap.size w gs bs gr (k + 1) (.slice Ab m cb) gl m bl w6) := Lib.hid ⟨_, _, _, _, _, _, RD6.two.big (by omega) (by omega) (by omega), r6, l6, n6, n6', RD6.bel, RD6.b, RD6.lent⟩
              clear RD6 t6 r6 f6 hout
              go_wp2_with fail
              go_meet
              exact ⟨_, rfl, rfl, DN.out⟩
            · obtain ⟨S1, hs1, hk1⟩ := RD.out.two.prog
              have HS1 := Lib.hid hs1
              have HK1 := Lib.hid hk1
              clear hs1 hk1
              obtain ⟨q, hq⟩ : ∃ q, xn.tmod 6 = q := ⟨_, rfl⟩
              have hq1 : q ≤ 5 := by have := Int.tmod_lt_of_pos xn (b := 6) (by omega); omega
              have hq0 : -5 ≤ q := by have := Int.lt_tmod_of_pos xn (b := 6) (by omega); omega
              obtain ⟨ql, hql⟩ : ∃ t, mx 0 q = t := ⟨_, rfl⟩
              have HQL := Lib.hid hql
              clear hql
              go_wp2_with fail
              refine (fuse_any gs bs S1 k (20 * k) st q ql (wf_mk (by omega) (by omega)) HQL.out w4 HS1.out).mono ?_
              rintro e w5 ⟨rfl, h1, h2⟩
              obtain ⟨t5, f5⟩ := HK1.out w5 _ _ _ (sto_wide h1 HS1.out.glt HS1.out.blt) (h2.mono (fun _ h => .inl h))
              have RD5 := Lib.hid (RD.out.next f5 t5 hB4)
              have hB5 : w.heap.size ≤ w5.heap.size := Nat.le_trans hB4 f5.size
              obtain ⟨y0, y1, y2, y3⟩ := actCells (BX4.out.frm f5 ug6)
              clear t5 f5 h1 h2
              obtain ⟨S2, v2, hr2, hk2⟩ := RD5.out.two.refr
              have HR2 := Lib.hid hr2
              have HK2 := Lib.hid hk2
              clear hr2 hk2
              go_wp2_with fail
              refine (rfuse_out HR2.out R.out hll q ql HQL.out hq1).mono ?_
              rintro e w6 ⟨rfl, hout⟩
              obtain ⟨l2, d2, a2, N2, t6, r6, l6, n6, n6', f6⟩ := HK2.out w6 _ _ _ hout
              have RD6 := RD5.out.next f6 t6 hB5
              have DN : Hid (Done w.heap.size w gs bs gr (k + 1) (.slice Ab m cb) gl m bl w6) := Lib.hid ⟨_, _, _, _, _, _, RD6.two.big (by omega) (by omega) (by omega), r6, l6, n6, n6', RD6.bel, RD6.b, RD6.lent⟩
              clear RD6 t6 r6 f6 hout
              go_wp2_with fail
              go_meet
              exact ⟨_, rfl, rfl, DN.out⟩
            · obtain ⟨S1, hs1, hk1⟩ := RD.out.two.prog
              have HS1 := Lib.hid hs1
              have HK1 := Lib.hid hk1
              clear hs1 hk1
              obtain ⟨q, hq⟩ : ∃ q, xn.tmod 12 = q := ⟨_, rfl⟩
              go_wp2_with fail
              refine (crash_any gs bs S1 k (20 * k) st q w4 HS1.out (by omega) (by unfold maxLen; omega)).mono ?_
              rintro e w5 ⟨rfl, h1, h2⟩
              obtain ⟨t5, f5⟩ := HK1.out w5 _ _ _ h1 h2
              have RD5 := Lib.hid (RD.out.next f5 t5 hB4)
              have hB5 : w.heap.size ≤ w5.heap.size := Nat.le_trans hB4 f5.size
              obtain ⟨y0, y1, y2, y3⟩ := actCells (BX4.out.frm f5 ug6)
              clear t5 f5 h1 h2
              obtain ⟨S2, v2, hr2, hk2⟩ := RD5.out.two.refr
              have HR2 := Lib.hid hr2
              have HK2 := Lib.hid hk2
              clear hr2 hk2
              go_wp2_with fail
              refine (rcrash_out HR2.out R.out hll (by omega) (by omega) hn1 hn2 q).mono ?_
              rintro e w6 ⟨rfl, hout⟩
              obtain ⟨l2, d2, a2, N2, t6, r6, l6, n6, n6', f6⟩ := HK2.out w6 _ _ _ hout
              have RD6 := RD5.out.next f6 t6 hB5
              have DN : Hid (Done w.heap.size w gs bs gr (k + 1) (.slice Ab m cb) gl m bl w6) := Lib.hid ⟨_, _, _, _, _, _, RD6.two.big (by omega) (by omega) (by omega), r6, l6, n6, n6', RD6.bel, RD6.b, RD6.lent⟩
              clear RD6 t6 r6 f6 hout
              go_wp2_with fail
              go_meet
              exact ⟨_, rfl, rfl, DN.out⟩
            · obtain ⟨S1, hs1, hk1⟩ := RD.out.two.prog
              have HS1 := Lib.hid hs1
              have HK1 := Lib.hid hk1
              clear hs1 hk1
              obtain ⟨q, hq⟩ : ∃ q, xn.tmod 12 = q := ⟨_, rfl⟩
              go_wp2_with fail
              refine (crash_any gs bs S1 k (20 * k) st q w4 HS1.out (by omega) (by unfold maxLen; omega)).mono ?_
              rintro e w5 ⟨rfl, h1, h2⟩
              obtain ⟨t5, f5⟩ := HK1.out w5 _ _ _ h1 h2
              have RD5 := Lib.hid (RD.out.next f5 t5 hB4)
              have hB5 : w.heap.size ≤ w5.heap.size := Nat.le_trans hB4 f5.size
              obtain ⟨y0, y1, y2, y3⟩ := actCells (BX4.out.frm f5 ug6)
              clear t5 f5 h1 h2
              obtain ⟨S2, v2, hr2, hk2⟩ := RD5.out.two.refr
              have HR2 := Lib.hid hr2
              have HK2 := Lib.hid hk2
              clear hr2 hk2
              go_wp2_with fail
              refine (rcrash_out HR2.out R.out hll (by omega) (by omega) hn1 hn2 q).mono ?_
              rintro e w6 ⟨rfl, hout⟩
              obtain ⟨l2, d2, a2, N2, t6, r6, l6, n6, n6', f6⟩ := HK2.out w6 _ _ _ hout
              have RD6 := RD5.out.next f6 t6 hB5
              have DN : Hid (Done w.heap.size w gs bs gr (k + 1) (.slice Ab m cb) gl m bl w6) := Lib.hid ⟨_, _, _, _, _, _, RD6.two.big (by omega) (by omega) (by omega), r6, l6, n6, n6', RD6.bel, RD6.b, RD6.lent⟩
              clear RD6 t6 r6 f6 hout
              go_wp2_with fail
              go_meet
              exact ⟨_, rfl, rfl, DN.out⟩
            · obtain ⟨S1, hs1, _⟩ := RD.out.two.prog
              have HS1 := Lib.hid hs1
              clear hs1
              go_wp2_with fail
              refine (clones_any gs bs S1 k (20 * k) st w4 HS1.out).mono ?_
              rintro e w5 ⟨gc, bc, rfl, gc1, bc1, hsc, hb5⟩
              have HSC := Lib.hid (hsc.below ((Below.refl _ _).alloc (Nat.le_refl _) (.cells #[.int .u8 7] 5)))
              have gcl := hsc.glt
              have HB5 := Lib.hid (hb5.alloc hb5.size (.cells #[.int .u8 7] 5))
              have s5 : w4.heap.size ≤ w5.heap.size := hb5.size
              have BOX := Lib.hid (Sl.one w5 5 (.int .u8 7) rfl)
              obtain ⟨r7, st7, hs7⟩ : ∃ r st2, appS st 1 [7] = (r, st2) := ⟨_, _, rfl⟩
              have HS7 := Lib.hid hs7
              have HNE : Hid (∀ j, (Value.slice (some ⟨w5.heap.size, 0, none⟩) 1 1).ownBlock = some j → j ≠ gc) := Lib.hid (fun j hj e => by injection hj with hj; simp only at hj; omega)
              clear hsc hb5 hs7
              go_wp2_with fail
              refine (app_any gc bc _ k (20 * k) st 1 _ HSC.out (by decide) (some ⟨w5.heap.size, 0, none⟩) 1 1 [7] BOX.out (by unfold maxLen; omega) (by omega) (by omega) HNE.out r7 st7 HS7.out).mono ?_
              rintro e w6 ⟨rfl, h1, h2⟩
              have HB6 := Lib.hid (Frm.below HB5.out h2 (Nat.le_trans s5 (by simp)) (fun i hi => by rcases hi with rfl | rfl <;> omega))
              have H1 := Lib.hid h1
              clear h1 h2
              go_wp2_with fail
              refine (crash_any gc bc _ (k + 1) (20 * k + 1) st7 0 w6 H1.out (by omega) (by unfold maxLen; omega)).mono ?_
              rintro e w7 ⟨rfl, h1, h2⟩
              have HB7 := Frm.below HB6.out h2 HB6.out.size (fun i hi => by rcases hi with rfl | rfl <;> omega)
              have RD7 := Ready.below RD.out HB7 hB4
              have DN : Hid (Done w.heap.size w gs bs gr (k + 1) (.slice Ab m cb) gl m bl w7) := Lib.hid ⟨_, _, _, _, _, _, RD7.two.big (by omega) (by omega) (by omega), R.out, by omega, by omega, hn2, RD7.bel, RD7.b, RD7.lent⟩
              clear RD7 HB7 h1 h2
              go_wp2_with fail
              go_meet
              exact ⟨_, rfl, rfl, DN.out⟩
          case rest =>
            obtain ⟨r, rfl, rfl, hdn⟩ := hcut
            obtain ⟨U9, st9, l9, d9, a9, N9, t9, r9, l9l, n9, n9', bel9, sb9, lt9⟩ := hdn
            obtain ⟨S9, S9', v9, bw9⟩ := t9.bw
            have T9 := Lib.hid t9
            have R9 := Lib.hid r9
            have BEL9 := Lib.hid bel9
            have SB9 := Lib.hid sb9
            have LT9 := Lib.hid lt9
            have BW9 := Lib.hid bw9
            have hrr : ((r : Int) != r) = false := by simp
            have hB9 := bel9.size
            clear t9 r9 bel9 sb9 lt9 bw9
            go_wp2_with fail
            refine (same_any gs bs S9 (k + 1) (20 * (k + 1)) st9 gr S9' 0 (20 * (k + 1)) v9 l9 d9 a9 N9 wc BW9.out R9.out (by omega) (by omega) (by omega)).mono ?_
            rintro e wd ⟨rfl, hbd⟩
            have T10 := Lib.hid (T9.out.below hbd)
            have BEL10 := Lib.hid (BEL9.out.trans (hbd.mono hB9))
            have SB10 := Lib.hid (SB9.out.below hbd)
            have LT10 := Lib.hid (LT9.out.below hbd)
            clear hbd
            go_wp2_with fail
            refine (intact_any wd gl _ m bl LT10.out SB10.out (by omega)).mono ?_
            rintro e _ ⟨rfl, m9, rfl⟩
            have HD9 : Hid (Head w.heap.size w gs bs gr (k + 1) (wd.drewN m9)) := Lib.hid ⟨U9, st9, l9, d9, a9, N9, T10.out.below ((Below.refl _ _).drewN'' m9), R9.out, l9l, n9, n9', BEL10.out.drewN'' m9⟩
            go_wp2_with fail
            go_roundw
            case rel => exact ⟨k + 1, by omega, by go_num, HD9.out⟩
            case measure => simp [intOf]; omega
      · have j30 : ¬ (k : Int) < 30 := by omega
        obtain ⟨U, st, l, dead, armed, NN, ht, hr, hll, hn1, hn2, hbel⟩ := hH
        have BEL := Lib.hid hbel
        have hB : w.heap.size ≤ wr.heap.size := hbel.size
        clear ht hr hbel
        go_wp2_with fail
        refine (wakes_any _).mono ?_
        rintro e w9 ⟨rfl, hb9⟩
        go_wp2_with fail
        go_ret
        exact ⟨rfl, BEL.out.trans (hb9.mono hB)⟩
    · have j1 : ¬ (k : Int) < (len0 : Int) := by omega
      obtain ⟨U, st, l, dead, armed, NN, ht, hr, hll, hn1, hn2, hbel⟩ := hH
      have BEL := Lib.hid hbel
      have hB : w.heap.size ≤ wr.heap.size := hbel.size
      clear ht hr hbel
      go_wp2_with fail
      refine (wakes_any _).mono ?_
      rintro e w9 ⟨rfl, hb9⟩
      go_wp2_with fail
      go_ret
      exact ⟨rfl, BEL.out.trans (hb9.mono hB)⟩

/-! ### THE ROW's STEP: WRITTEN OUT: LEAVE IT -/
set_option maxRecDepth 100000 in
theorem lifted (os : Os) (started : os.Started) (H : Type) (enc : TypeId × Value → H) :
    ReturnsInHanded {} Try.checked os 4 .any (Rows.storePlaysSpec.pre6 enc Try.prog Try.f4 Rows.storePlaysRow.domain false) (Rows.storePlaysSpec.post enc Try.prog Try.f4 false true false false) := by
  refine returnsInHanded_of_change (C := Try.checked) own started (by kernel_rfl) Try.func4
    (ChangeSpec.witness6 (enc := enc) (C := Try.checked) false ⟨#[], #[.slice none 0 0], []⟩ 8 (by kernel_rfl) (by kernel_rfl) (by kernel_rfl) (by kernel_rfl)) ?_
  intro W base args ds gs before hval0 hW hcnd _
  have hval : ∀ (j : Nat) t v, Try.f4.params[j]? = some t → args[j]? = some v → Value.okWide Try.prog W .any base t v := hval0
  have hW' := hW
  obtain ⟨p, q, hA0, hV, rfl, hfz, hnd⟩ := hW
  have hA : DataW.TrodAll enc Try.prog W 0 (fun _ => true) true Try.f4.params.toList args.toList ds p := hA0
  rw [Try.params4] at hA hval
  obtain ⟨v0, vs0, d0, ds0, p0, q0, hargs, rfl, rfl, h0, r0⟩ := trodAll_cons hA
  obtain ⟨rfl, rfl, rfl⟩ := trodAll_nil r0
  obtain rfl : args = #[v0] := by cases args; simp_all
  obtain ⟨rfl, rfl⟩ := trodVars_none hV
  obtain ⟨a0, len0, cap0, rfl⟩ := okWide_slice Try.underlying40 (hval 0 40 v0 rfl rfl)
  have k0 := h0
  have lt0 : ∀ x ∈ p0, x.block < W.heap.size := by obtain ⟨m, hm⟩ := k0; exact DataW.trod_lt m _ _ _ hm
  have w0 : IsActs W a0 len0 cap0 := by
    obtain ⟨fuel, hf⟩ := h0
    exact open_acts hf
  clear hA0 hval0
  refine (walk a0 len0 cap0 W w0).mono fun e W' ⟨he, bel⟩ => ?_
  subst he
  exact ⟨_, rfl, _, _, _, [], _, [], hW', trodAll_mk1 (shut_bool Try.underlying4 _), (trodAll_cons_mk (Below.trod laidOut (by kernel_rfl) (of_decide_eq_true (by kernel_rfl)) k0 bel lt0) trodAll_mk0), rfl, bel.frame _, fun h => by cases h⟩

theorem over : Rows.storePlaysRow.holds Try.pinned (OpenSpec.ofChange Rows.storePlaysSpec) :=
  OpenClaim.holds_of_wide 4 Try.f4 rfl rfl rfl rfl rfl rfl rfl ⟨rfl, rfl, rfl, rfl, rfl⟩ rfl rfl rfl rfl rfl (by kernel_rfl) Try.func4 (by kernel_rfl)
    (of_decide_eq_true (by kernel_rfl)) (by unfold Func.isWrapper; first | (rw [if_pos (by decide +kernel)]; kernel_rfl) | (rw [if_neg (by decide +kernel)]; exact ⟨rfl, rfl⟩))
    (fun os started H enc _ => lifted os started H enc)

/-- ████ THE STATEMENT ████ -/
theorem proved : Rows.StorePlaysSaid := over
#print axioms proved
end Go.Proofs.Ytfcagjnedaaadaa.storePlays
