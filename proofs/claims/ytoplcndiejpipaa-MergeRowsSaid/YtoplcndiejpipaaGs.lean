/- MergeRows' walk. -/
import Derived.Test.YtoplcndiejpipaaGr
import Derived.RegionTactic
import Derived.Deep.RegionLaw
import Derived.Deep.RegionHeld3
import Derived.Deep.CutBlock
import Derived.Deep.DeepCutAuto
namespace Go.Proofs.Ytoplcndiejpipaa
open Go.RowKit
set_option linter.unusedVariables false
set_option linter.unusedSimpArgs false
/-- WHAT THE WALK IS TOLD OF A SLICE OF INTEGERS THAT CAME IN: it is nil; or it leads to a row of 'cap' cells, the numbers 'zs' (the first 'len' are its elements, the rest its spare room), each fitting its kind. -/
def IsRow (k : IntKind) (w : World) (a : Option Addr) (len cap : Nat) (zs : List Int) : Prop :=
  (a = none ∧ len = 0 ∧ cap = 0 ∧ zs = []) ∨
  ∃ x, a = some x ∧ len ≤ cap ∧ cap ≤ maxLen ∧ zs.length = cap ∧ (∀ i, i < zs.length → w.cell? (x.add i) = some (.int k (zs.getD i 0))) ∧ ∀ n ∈ zs, (Lit.int k n).wf = true


theorem IsRow.at_ {k : IntKind} {w : World} {a : Option Addr} {len cap : Nat} {zs : List Int} (h : IsRow k w a len cap zs) {i : Nat} (hi : i < len) : ∃ x n, a = some x ∧ w.cell? (x.add i) = some (.int k n) ∧ (Lit.int k n).wf = true := by
  rcases h with ⟨rfl, rfl, _⟩ | ⟨x, rfl, h1, h2, h3, h4, h5⟩
  · omega
  · refine ⟨x, zs.getD i 0, rfl, h4 i (by omega), ?_⟩
    have hl : i < zs.length := by omega
    rw [List.getD_eq_getElem?_getD, List.getElem?_eq_getElem hl]
    exact h5 _ (List.getElem_mem hl)
theorem _root_.Int.tdiv_two_bounds (a : Int) : (0 ≤ a → 0 ≤ a.tdiv 2 ∧ a.tdiv 2 ≤ a) ∧ (a ≤ 0 → a ≤ a.tdiv 2 ∧ a.tdiv 2 ≤ 0) := by
  constructor
  · intro h
    rw [Int.tdiv_eq_ediv_of_nonneg h]
    omega
  · intro h
    have : a.tdiv 2 = -((-a) / 2) := by rw [← Int.tdiv_eq_ediv_of_nonneg (by omega), Int.neg_tdiv, Int.neg_neg]
    omega
theorem rows_start (w : World) (W0 : World) (hW : W0 = (((w.alloc (.cells #[.slice none 0 0, .slice none 0 0] 42)).alloc (.map #[] 0)).alloc (.map #[] 0)).alloc (.cells #[.map (some (w.heap.size + 1)), .map (some (w.heap.size + 1 + 1))] 44)) :
    LR w w.heap.size (w.heap.size + 1 + 1 + 1) (w.heap.size + 1) (w.heap.size + 1 + 1) (.int .i64 (0 : Nat)) W0 := by
  subst hW
  have e1 : (w.alloc (.cells #[.slice none 0 0, .slice none 0 0] 42)).heap.size = w.heap.size + 1 := by simp
  have e2 : ((w.alloc (.cells #[.slice none 0 0, .slice none 0 0] 42)).alloc (.map #[] 0)).heap.size = w.heap.size + 1 + 1 := by simp
  have e3 : (((w.alloc (.cells #[.slice none 0 0, .slice none 0 0] 42)).alloc (.map #[] 0)).alloc (.map #[] 0)).heap.size = w.heap.size + 1 + 1 + 1 := by simp
  have m0 := MpV.made (w.alloc (.cells #[.slice none 0 0, .slice none 0 0] 42))
  rw [e1] at m0
  have m1 := MpV.made ((w.alloc (.cells #[.slice none 0 0, .slice none 0 0] 42)).alloc (.map #[] 0))
  rw [e2] at m1
  have bs := Blk.new (((w.alloc (.cells #[.slice none 0 0, .slice none 0 0] 42)).alloc (.map #[] 0)).alloc (.map #[] 0)) #[.map (some (w.heap.size + 1)), .map (some (w.heap.size + 1 + 1))] 44
  rw [e3] at bs
  have et : ∀ s, trueAt (sentAt s []) = fun _ => none := fun s => by
    funext n
    unfold trueAt
    rw [if_neg (fun h => by cases h)]
  refine ⟨0, [], .slice none 0 0, .slice none 0 0, by omega, rfl, rfl, RowOk.nil, ⟨(((Blk.new w #[.slice none 0 0, .slice none 0 0] 42).alloc _).alloc _).alloc _, bs, ?_, ?_, OutG.nil _ _ _ _ _ _ _, OutG.nil _ _ _ _ _ _ _, ⟨by omega, by omega, by omega, by omega⟩, ⟨by omega, by omega, by omega, by omega, by omega, by omega⟩, (fun j h => by cases h), (fun j h => by cases h), (fun j h => by cases h)⟩, (((((Below.refl _ _).alloc (Nat.le_refl _) _).alloc (by simp) _).alloc (by simp; omega) _).alloc (by simp; omega) _)⟩
  · rw [et]; exact (m0.alloc _).alloc _
  · rw [et]; exact m1.alloc _
set_option maxHeartbeats 16000000 in
set_option maxRecDepth 100000 in
theorem rows_walk (a0 : Option Addr) (len0 cap0 : Nat) (z0 : List Int) (a1 : Option Addr) (len1 cap1 : Nat) (z1 : List Int) (w : World) (w0 : IsRow .i64 w a0 len0 cap0 z0) (w1 : IsRow .i64 w a1 len1 cap1 z1) :
    Calls Try.prog 4 #[.slice a0 len0 cap0, .slice a1 len1 cap1] w fun e w' => e = .returned (.bool true) ∧ Below w.heap.size w w' := by
  have A0 := Lib.hid w0
  have A1 := Lib.hid w1
  clear w0 w1
  have hmm := @run_makeMap Try.prog
  go_enter Try.func4, Try.ntmps4
  go_upto_block 0 with fail
  have HS0 := Lib.hid (rows_start w _ rfl)
  obtain ⟨gs, hgs⟩ : ∃ g, g = w.heap.size + 1 + 1 + 1 := ⟨_, rfl⟩
  obtain ⟨g1, hg1⟩ : ∃ g, g = w.heap.size + 1 + 1 := ⟨_, rfl⟩
  obtain ⟨g0, hg0⟩ : ∃ g, g = w.heap.size + 1 := ⟨_, rfl⟩
  obtain ⟨gx, hgx⟩ : ∃ g, g = w.heap.size := ⟨_, rfl⟩
  obtain ⟨W0, hW0⟩ : ∃ W, W = (((w.alloc (.cells #[.slice none 0 0, .slice none 0 0] 42)).alloc (.map #[] 0)).alloc (.map #[] 0)).alloc (.cells #[.map (some (w.heap.size + 1)), .map (some (w.heap.size + 1 + 1))] 44) := ⟨_, rfl⟩
  rw [← hW0, ← hgs, ← hg1, ← hg0] at HS0
  rw [← hW0, ← hgs, ← hg1, ← hg0]
  have HS : Hid (LR w gx gs g0 g1 (.int .i64 (0 : Nat)) W0) := by rw [hgx]; exact HS0
  rw [← hgx]
  clear HS0 hW0 hgs hg1 hg0 hgx hmm
  go_cut [] (fun wx => ∃ (v0 v1 : Value) (wl : List (Int × Ev)), RowOk wl ∧ wl.length ≤ 24 ∧ RS w.heap.size wx gx gs g0 g1 v0 v1 (only 0 wl) (only 1 wl) 24 (trueAt (sentAt 0 wl)) (trueAt (sentAt 1 wl)) ∧ Below w.heap.size w wx)
  case first =>
    go_wp2_with fail
    go_loopw [7] (fun i wr => LR w gx gs g0 g1 i wr) (fun i _ => 24 - (intOf i).toNat)
    case atStart => exact HS.out
    case round =>
      clear HS
      obtain ⟨k, wl, v0, v1, hk, rfl, hwl, hok, hrs, hb⟩ := hrel
      have RSH := Lib.hid hrs
      have BR := Lib.hid hb
      have OKH := Lib.hid hok
      have WL := Lib.hid hwl
      have sr : w.heap.size ≤ wr.heap.size := hb.size
      have iwk : IntKind.i64.wrap ((k : Int) + 1) = (k : Int) + 1 := IntWalk.i64_in _ ⟨by omega, by omega⟩
      have k0 : (0 : Int) ≤ (k : Int) := by omega
      clear hrs hok hwl
      by_cases t0 : k < len0
      · have u0 : (k : Int) < (len0 : Int) := by omega
        by_cases t1 : k < len1
        · have u1 : (k : Int) < (len1 : Int) := by omega
          by_cases t2 : k < 24
          · have u2 : (k : Int) < 24 := by omega
            obtain ⟨x0, act, rfl, hc0, wf0⟩ := A0.out.at_ t0
            obtain ⟨x1, num, rfl, hc1, wf1⟩ := A1.out.at_ t1
            have c0 := (hb.cell (World.block_lt_of_cell? w _ hc0)).trans hc0
            have c1 := (hb.cell (World.block_lt_of_cell? w _ hc1)).trans hc1
            clear hc0 hc1 hb
            have wf0' : -9223372036854775808 ≤ act ∧ act ≤ 9223372036854775807 := by simpa [Lit.wf, IntKind.min, IntKind.max, IntKind.bits, IntKind.signed] using wf0
            have iwq : IntKind.i64.wrap (act.tdiv 2) = act.tdiv 2 := IntWalk.i64_in _ (by have h2 := Int.tdiv_two_bounds act; constructor <;> omega)
            obtain ⟨nn, hnn⟩ : ∃ nn, num % 5 = nn := ⟨_, rfl⟩
            have hnn0 : 0 ≤ nn ∧ nn < 5 := by omega
            have hwn : (Lit.int .i64 nn).wf = true := by simp [Lit.wf, IntKind.min, IntKind.max, IntKind.bits, IntKind.signed]; omega
            have NN := Lib.hid hnn
            clear hnn
            obtain ⟨kk, hkk⟩ : ∃ kk, act.tdiv 2 % 3 = kk := ⟨_, rfl⟩
            have hkk0 : kk = 0 ∨ kk = 1 ∨ kk = 2 := by omega
            have KK := Lib.hid hkk
            clear hkk
            have HI := Lib.hid Try.info27
            have RS6 := Lib.hid RSH.out.drew
            have B6 := Lib.hid (BR.out.drew)
            have s6 : w.heap.size ≤ wr.drew.heap.size := sr
            obtain ⟨vs0, p01, p02, p03, _⟩ := RS6.out.r0
            obtain ⟨vs1, p11, p12, p13, _⟩ := RS6.out.r1
            have P01 := Lib.hid p01
            have P02 := Lib.hid p02
            have P03 := Lib.hid p03
            have P11 := Lib.hid p11
            have P12 := Lib.hid p12
            have P13 := Lib.hid p13
            obtain ⟨A0_, c0_, rfl⟩ := RS6.out.r0.form
            obtain ⟨A1_, c1_, rfl⟩ := RS6.out.r1.form
            have hl0 : (only 0 wl).length ≤ 24 := by have := only_length 0 wl; have := WL.out; omega
            have hl1 : (only 1 wl).length ≤ 24 := by have := only_length 1 wl; have := WL.out; omega
            have x0_ := RS6.out.bx.cell 0
            have x1_ := RS6.out.bx.cell 1
            have s0_ := RS6.out.bs.cell 0
            have s1_ := RS6.out.bs.cell 1
            simp only [List.getElem?_toArray, List.getElem?_cons_zero, List.getElem?_cons_succ] at x0_ x1_ s0_ s1_
            clear p01 p02 p03 p11 p12 p13
            rcases side_two act with hs | hs
            · have SD := Lib.hid hs
              clear hs
              go_upto_region 6 with fail
              first | (go_region_held3 (fun w' => w'.cell? (x0.add k) = some (.int .i64 act) ∧ w'.cell? (x1.add k) = some (.int .i64 num)) (first | with_reducible exact ⟨c0, c1⟩ | go_keep) (first
                | (go_at_call 5; (with_reducible refine (within_any act 2 _ (by decide) (by decide)).mono ?_); rintro r _ ⟨rfl, rfl⟩; rw [SD.out])
                | (go_at_call 5; (with_reducible refine (within_any num 5 _ (by decide) (by decide)).mono ?_); rintro r _ ⟨rfl, rfl⟩; rw [NN.out]))) | fail
              (try clear hHeld)
              (try (rename_i hh_; clear hh_))
              obtain ⟨w6, hw6⟩ : ∃ W, W = wr.drew := ⟨_, rfl⟩
              have d0 : w6.cell? (x0.add k) = some (.int .i64 act) := by rw [hw6]; exact c0
              have d1 : w6.cell? (x1.add k) = some (.int .i64 num) := by rw [hw6]; exact c1
              rw [← hw6] at RS6 B6 s6 P01 P11 P03 P13 x0_ x1_ s0_ s1_ ⊢
              clear hw6 c0 c1
              rcases hkk0 with rfl | rfl | rfl
              · go_wp2_with (first
                  | (go_at_call 5; (with_reducible refine (within_any (act.tdiv 2) 3 _ (by decide) (by decide)).mono ?_); rintro r _ ⟨rfl, rfl⟩; rw [KK.out])
                  | (at_builtin; refine wp_app w.heap.size rfl _ _ 28 27 _ 12 128 rfl Try.underlying28 HI.out rfl (by omega) (by omega) rfl rfl ((P01.out).alloc _) (Sl.boxk w6 27 12 (ecells (tickE ((k : Int) + 1)) (nilV, nilV)) _ (by simp) rfl (EV.one (EV.bare SN w6 (tickE ((k : Int) + 1)) rfl rfl))) (by omega) (Nat.le_trans s6 (by simp)) ?_; intro v7 w7 hown hfr hat; have F7 : Frm (fun j => (Value.slice A0_ (only 0 wl).length c0_).ownBlock = some j) w6 w7 := ((Frm.refl _ w6).alloc _).trans hfr; have b7 := RS6.out.bx.frm F7 (fun e => (RS6.out.a0 gx e).1 rfl); have cx7 := b7.cell 0; have fx7 := b7.free 0; simp only [List.getElem?_toArray, List.getElem?_cons_zero, List.getElem?_cons_succ] at cx7; have HB7 := Lib.hid (Frm.below B6.out F7 s6 (fun i e => (RS6.out.r0.own i e).1)); have HF7 := Lib.hid hfr; have HO7 := Lib.hid hown; have HA7 := Lib.hid hat; obtain ⟨A7, c7, rfl⟩ := own_slice' hown; clear F7 b7 hfr hown hat))
                have PR := RS6.out.push0 (e := tickE ((k : Int) + 1)) ⟨rfl, rfl⟩ (Below.refl _ _) P01.out P02.out P03.out HF7.out HO7.out HA7.out
                have REL := Lib.hid (LR.mk' t2 WL.out (OKH.out.snoc 0 (tickE ((k : Int) + 1)) (by decide) ⟨rfl, rfl⟩ (fun h => by cases h)) (Nat.le_succ _) (by rw [same_said _ _ _ _ (.inl (by simp [tickE])), same_said _ _ _ _ (.inl (by simp [tickE]))]; exact PR.to0) (HB7.out.setCell (p := ⟨gx, 0, none⟩) RS6.out.ge.1 (.slice A7 ((only 0 wl).length + 1) c7)))
                clear PR cx7 fx7 HF7 HO7 HA7 HB7
                (try go_wp2_with fail)
                go_roundw
                case rel => exact REL.out _ (by go_num)
                case measure => simp [intOf]; omega
              · go_upto_region 11 with (go_at_call 5; (with_reducible refine (within_any (act.tdiv 2) 3 _ (by decide) (by decide)).mono ?_); rintro r _ ⟨rfl, rfl⟩; rw [KK.out])
                first | (go_region_law (first
                  | (go_simp; go_at_call 7; (with_reducible refine (sent_any _ nn).mono ?_); rintro r w8 ⟨rfl, hb8⟩; have K8 := Lib.hid (drew_below hb8); have x8_ := (K8.out.cell (World.block_lt_of_cell? w6 _ x0_)).trans x0_; have s8 : w.heap.size ≤ w8.heap.size := Nat.le_trans s6 K8.out.size; have x8a := fun o => cell_in_alloc x8_ o; clear hb8)
                  | (refine step_app (v := .slice A0_ (only 0 wl).length c0_) w.heap.size (by rfl) _ _ 28 27 _ 12 128 (by rfl) Try.underlying28 HI.out rfl (by omega) (by omega) (by rfl) (by rfl) ((own_frm P01.out (Frm.of_below (S := fun _ => False) K8.out) (fun _ _ h => h)).alloc _) (Sl.boxk w8 27 12 (ecells (sentE nn) (nilV, nilV)) _ (by simp) rfl (EV.one (EV.bare SN w8 (sentE nn) rfl rfl))) (by omega) (Nat.le_trans s8 (by simp)) ?_; intro v7 w7 hown hfr hat; have F7 : Frm (fun j => (Value.slice A0_ (only 0 wl).length c0_).ownBlock = some j) w6 w7 := ((Frm.of_below K8.out).alloc _).trans hfr; have b7 := RS6.out.bx.frm F7 (fun e => (RS6.out.a0 gx e).1 rfl); have cx7 := b7.cell 0; have fx7 := b7.free 0; simp only [List.getElem?_toArray, List.getElem?_cons_zero, List.getElem?_cons_succ] at cx7; have HB7 := Lib.hid (Frm.below B6.out F7 s6 (fun i e => (RS6.out.r0.own i e).1)); have HF7 := Lib.hid hfr; have HO7 := Lib.hid hown; have HA7 := Lib.hid hat; obtain ⟨A7, c7, rfl⟩ := own_slice' hown; clear F7 b7 hfr hown hat))) | fail
                all_goals
                  have PR := RS6.out.push0 (e := sentE nn) ⟨rfl, rfl⟩ K8.out P01.out P02.out P03.out HF7.out HO7.out HA7.out
                  obtain ⟨w12, hrun, hm12, hf12⟩ := PR.m0.putb (P' := sentAt 0 (wl ++ [(0, sentE nn)])) (by unfold maxLen; omega) nn hwn (sentAt_same 0 wl nn)
                  have HB12 := Frm.below (HB7.out.setCell (p := ⟨gx, 0, none⟩) RS6.out.ge.1 (.slice A7 ((only 0 wl).length + 1) c7)) hf12 (Nat.le_trans HB7.out.size (by simp)) (fun i e => by have := RS6.out.ge; omega)
                  have REL := Lib.hid (LR.mk' t2 WL.out (OKH.out.snoc 0 (sentE nn) (by decide) ⟨rfl, rfl⟩ (fun h => by cases h)) (Nat.le_refl _) (by rw [same_said wl 1 0 (sentE nn) (.inr (by decide))]; exact (PR.map0 hm12 hf12).to0) HB12)
                  have y_ := PR.bs.cell 0
                  simp only [List.getElem?_toArray, List.getElem?_cons_zero, List.getElem?_cons_succ] at y_
                  clear PR HB12 hm12 hf12 cx7 fx7 HF7 HO7 HA7 HB7 K8 x8_ x8a s8
                  go_wp2_with fail
                  go_roundw
                  case rel => exact REL.out _ (by go_num)
                  case measure => simp [intOf]; omega
              · obtain ⟨q, hq⟩ : ∃ q, decide (sentAt 1 wl nn) = q := ⟨_, rfl⟩
                have LK := RS6.out.m1.lookb nn hwn q hq
                have QQ := Lib.hid hq
                clear hq
                cases q
                · go_upto_region 11 with (go_at_call 5; (with_reducible refine (within_any (act.tdiv 2) 3 _ (by decide) (by decide)).mono ?_); rintro r _ ⟨rfl, rfl⟩; rw [KK.out])
                  first | (go_region_law (first
                    | (go_simp; go_at_call 7; (with_reducible refine (sent_any _ nn).mono ?_); rintro r w8 ⟨rfl, hb8⟩; have K8 := Lib.hid (drew_below hb8); have x8_ := (K8.out.cell (World.block_lt_of_cell? w6 _ x0_)).trans x0_; have s8 : w.heap.size ≤ w8.heap.size := Nat.le_trans s6 K8.out.size; have x8a := fun o => cell_in_alloc x8_ o; clear hb8)
                    | (refine step_app (v := .slice A0_ (only 0 wl).length c0_) w.heap.size (by rfl) _ _ 28 27 _ 12 128 (by rfl) Try.underlying28 HI.out rfl (by omega) (by omega) (by rfl) (by rfl) ((own_frm P01.out (Frm.of_below (S := fun _ => False) K8.out) (fun _ _ h => h)).alloc _) (Sl.boxk w8 27 12 (ecells (sentE nn) (nilV, nilV)) _ (by simp) rfl (EV.one (EV.bare SN w8 (sentE nn) rfl rfl))) (by omega) (Nat.le_trans s8 (by simp)) ?_; intro v7 w7 hown hfr hat; have F7 : Frm (fun j => (Value.slice A0_ (only 0 wl).length c0_).ownBlock = some j) w6 w7 := ((Frm.of_below K8.out).alloc _).trans hfr; have b7 := RS6.out.bx.frm F7 (fun e => (RS6.out.a0 gx e).1 rfl); have cx7 := b7.cell 0; have fx7 := b7.free 0; simp only [List.getElem?_toArray, List.getElem?_cons_zero, List.getElem?_cons_succ] at cx7; have HB7 := Lib.hid (Frm.below B6.out F7 s6 (fun i e => (RS6.out.r0.own i e).1)); have HF7 := Lib.hid hfr; have HO7 := Lib.hid hown; have HA7 := Lib.hid hat; obtain ⟨A7, c7, rfl⟩ := own_slice' hown; clear F7 b7 hfr hown hat))) | fail
                  all_goals
                    have PR := RS6.out.push0 (e := sentE nn) ⟨rfl, rfl⟩ K8.out P01.out P02.out P03.out HF7.out HO7.out HA7.out
                    obtain ⟨w12, hrun, hm12, hf12⟩ := PR.m0.putb (P' := sentAt 0 (wl ++ [(0, sentE nn)])) (by unfold maxLen; omega) nn hwn (sentAt_same 0 wl nn)
                    have HB12 := Frm.below (HB7.out.setCell (p := ⟨gx, 0, none⟩) RS6.out.ge.1 (.slice A7 ((only 0 wl).length + 1) c7)) hf12 (Nat.le_trans HB7.out.size (by simp)) (fun i e => by have := RS6.out.ge; omega)
                    have REL := Lib.hid (LR.mk' t2 WL.out (OKH.out.snoc 0 (sentE nn) (by decide) ⟨rfl, rfl⟩ (fun h => by cases h)) (Nat.le_refl _) (by rw [same_said wl 1 0 (sentE nn) (.inr (by decide))]; exact (PR.map0 hm12 hf12).to0) HB12)
                    have y_ := PR.bs.cell 0
                    simp only [List.getElem?_toArray, List.getElem?_cons_zero, List.getElem?_cons_succ] at y_
                    clear PR HB12 hm12 hf12 cx7 fx7 HF7 HO7 HA7 HB7 K8 x8_ x8a s8
                    go_wp2_with fail
                    go_roundw
                    case rel => exact REL.out _ (by go_num)
                    case measure => simp [intOf]; omega
                · go_upto_region 7 with (go_at_call 5; (with_reducible refine (within_any (act.tdiv 2) 3 _ (by decide) (by decide)).mono ?_); rintro r _ ⟨rfl, rfl⟩; rw [KK.out])
                  first | (go_region_law (first
                    | (go_simp; go_at_call 6; (with_reducible refine (came_any _ nn).mono ?_); rintro r w8 ⟨rfl, hb8⟩; have K8 := Lib.hid (drew_below hb8); have x8_ := (K8.out.cell (World.block_lt_of_cell? w6 _ x0_)).trans x0_; have s8 : w.heap.size ≤ w8.heap.size := Nat.le_trans s6 K8.out.size; have x8a := fun o => cell_in_alloc x8_ o; clear hb8)
                    | (refine step_app (v := .slice A0_ (only 0 wl).length c0_) w.heap.size (by rfl) _ _ 28 27 _ 12 128 (by rfl) Try.underlying28 HI.out rfl (by omega) (by omega) (by rfl) (by rfl) ((own_frm P01.out (Frm.of_below (S := fun _ => False) K8.out) (fun _ _ h => h)).alloc _) (Sl.boxk w8 27 12 (ecells (cameE nn) (nilV, nilV)) _ (by simp) rfl (EV.one (EV.bare SN w8 (cameE nn) rfl rfl))) (by omega) (Nat.le_trans s8 (by simp)) ?_; intro v7 w7 hown hfr hat; have F7 : Frm (fun j => (Value.slice A0_ (only 0 wl).length c0_).ownBlock = some j) w6 w7 := ((Frm.of_below K8.out).alloc _).trans hfr; have b7 := RS6.out.bx.frm F7 (fun e => (RS6.out.a0 gx e).1 rfl); have cx7 := b7.cell 0; have fx7 := b7.free 0; simp only [List.getElem?_toArray, List.getElem?_cons_zero, List.getElem?_cons_succ] at cx7; have HB7 := Lib.hid (Frm.below B6.out F7 s6 (fun i e => (RS6.out.r0.own i e).1)); have HF7 := Lib.hid hfr; have HO7 := Lib.hid hown; have HA7 := Lib.hid hat; obtain ⟨A7, c7, rfl⟩ := own_slice' hown; clear F7 b7 hfr hown hat))) | fail
                  all_goals
                    have PR := RS6.out.push0 (e := cameE nn) ⟨rfl, rfl⟩ K8.out P01.out P02.out P03.out HF7.out HO7.out HA7.out
                    have REL := Lib.hid (LR.mk' t2 WL.out (OKH.out.snoc 0 (cameE nn) (by decide) ⟨rfl, rfl⟩ (fun _ => ⟨sentE nn, (show ((1 : Int) - 0, sentE nn) ∈ wl from of_decide_eq_true QQ.out), rfl, rfl⟩)) (Nat.le_succ _) (by rw [same_said wl 0 0 (cameE nn) (.inl (by simp [cameE])), same_said wl 1 0 (cameE nn) (.inl (by simp [cameE]))]; exact PR.to0) (HB7.out.setCell (p := ⟨gx, 0, none⟩) RS6.out.ge.1 (.slice A7 ((only 0 wl).length + 1) c7)))
                    clear PR cx7 fx7 HF7 HO7 HA7 HB7 K8 x8_ x8a s8
                    (try go_wp2_with fail)
                    go_roundw
                    case rel => exact REL.out _ (by go_num)
                    case measure => simp [intOf]; omega
            · have SD := Lib.hid hs
              clear hs
              go_upto_region 6 with fail
              first | (go_region_held3 (fun w' => w'.cell? (x0.add k) = some (.int .i64 act) ∧ w'.cell? (x1.add k) = some (.int .i64 num)) (first | with_reducible exact ⟨c0, c1⟩ | go_keep) (first
                | (go_at_call 5; (with_reducible refine (within_any act 2 _ (by decide) (by decide)).mono ?_); rintro r _ ⟨rfl, rfl⟩; rw [SD.out])
                | (go_at_call 5; (with_reducible refine (within_any num 5 _ (by decide) (by decide)).mono ?_); rintro r _ ⟨rfl, rfl⟩; rw [NN.out]))) | fail
              (try clear hHeld)
              (try (rename_i hh_; clear hh_))
              obtain ⟨w6, hw6⟩ : ∃ W, W = wr.drew := ⟨_, rfl⟩
              have d0 : w6.cell? (x0.add k) = some (.int .i64 act) := by rw [hw6]; exact c0
              have d1 : w6.cell? (x1.add k) = some (.int .i64 num) := by rw [hw6]; exact c1
              rw [← hw6] at RS6 B6 s6 P01 P11 P03 P13 x0_ x1_ s0_ s1_ ⊢
              clear hw6 c0 c1
              rcases hkk0 with rfl | rfl | rfl
              · go_wp2_with (first
                  | (go_at_call 5; (with_reducible refine (within_any (act.tdiv 2) 3 _ (by decide) (by decide)).mono ?_); rintro r _ ⟨rfl, rfl⟩; rw [KK.out])
                  | (at_builtin; refine wp_app w.heap.size rfl _ _ 28 27 _ 12 128 rfl Try.underlying28 HI.out rfl (by omega) (by omega) rfl rfl ((P11.out).alloc _) (Sl.boxk w6 27 12 (ecells (tickE ((k : Int) + 1)) (nilV, nilV)) _ (by simp) rfl (EV.one (EV.bare SN w6 (tickE ((k : Int) + 1)) rfl rfl))) (by omega) (Nat.le_trans s6 (by simp)) ?_; intro v7 w7 hown hfr hat; have F7 : Frm (fun j => (Value.slice A1_ (only 1 wl).length c1_).ownBlock = some j) w6 w7 := ((Frm.refl _ w6).alloc _).trans hfr; have b7 := RS6.out.bx.frm F7 (fun e => (RS6.out.a1 gx e).1 rfl); have cx7 := b7.cell 1; have fx7 := b7.free 1; simp only [List.getElem?_toArray, List.getElem?_cons_zero, List.getElem?_cons_succ] at cx7; have HB7 := Lib.hid (Frm.below B6.out F7 s6 (fun i e => (RS6.out.r1.own i e).1)); have HF7 := Lib.hid hfr; have HO7 := Lib.hid hown; have HA7 := Lib.hid hat; obtain ⟨A7, c7, rfl⟩ := own_slice' hown; clear F7 b7 hfr hown hat))
                have PR := RS6.out.push1 (e := tickE ((k : Int) + 1)) ⟨rfl, rfl⟩ (Below.refl _ _) P11.out P12.out P13.out HF7.out HO7.out HA7.out
                have REL := Lib.hid (LR.mk' t2 WL.out (OKH.out.snoc 1 (tickE ((k : Int) + 1)) (by decide) ⟨rfl, rfl⟩ (fun h => by cases h)) (Nat.le_succ _) (by rw [same_said _ _ _ _ (.inl (by simp [tickE])), same_said _ _ _ _ (.inl (by simp [tickE]))]; exact PR.to1) (HB7.out.setCell (p := ⟨gx, 1, none⟩) RS6.out.ge.1 (.slice A7 ((only 1 wl).length + 1) c7)))
                clear PR cx7 fx7 HF7 HO7 HA7 HB7
                (try go_wp2_with fail)
                go_roundw
                case rel => exact REL.out _ (by go_num)
                case measure => simp [intOf]; omega
              · go_upto_region 11 with (go_at_call 5; (with_reducible refine (within_any (act.tdiv 2) 3 _ (by decide) (by decide)).mono ?_); rintro r _ ⟨rfl, rfl⟩; rw [KK.out])
                first | (go_region_law (first
                  | (go_simp; go_at_call 7; (with_reducible refine (sent_any _ nn).mono ?_); rintro r w8 ⟨rfl, hb8⟩; have K8 := Lib.hid (drew_below hb8); have x8_ := (K8.out.cell (World.block_lt_of_cell? w6 _ x1_)).trans x1_; have s8 : w.heap.size ≤ w8.heap.size := Nat.le_trans s6 K8.out.size; have x8a := fun o => cell_in_alloc x8_ o; clear hb8)
                  | (refine step_app (v := .slice A1_ (only 1 wl).length c1_) w.heap.size (by rfl) _ _ 28 27 _ 12 128 (by rfl) Try.underlying28 HI.out rfl (by omega) (by omega) (by rfl) (by rfl) ((own_frm P11.out (Frm.of_below (S := fun _ => False) K8.out) (fun _ _ h => h)).alloc _) (Sl.boxk w8 27 12 (ecells (sentE nn) (nilV, nilV)) _ (by simp) rfl (EV.one (EV.bare SN w8 (sentE nn) rfl rfl))) (by omega) (Nat.le_trans s8 (by simp)) ?_; intro v7 w7 hown hfr hat; have F7 : Frm (fun j => (Value.slice A1_ (only 1 wl).length c1_).ownBlock = some j) w6 w7 := ((Frm.of_below K8.out).alloc _).trans hfr; have b7 := RS6.out.bx.frm F7 (fun e => (RS6.out.a1 gx e).1 rfl); have cx7 := b7.cell 1; have fx7 := b7.free 1; simp only [List.getElem?_toArray, List.getElem?_cons_zero, List.getElem?_cons_succ] at cx7; have HB7 := Lib.hid (Frm.below B6.out F7 s6 (fun i e => (RS6.out.r1.own i e).1)); have HF7 := Lib.hid hfr; have HO7 := Lib.hid hown; have HA7 := Lib.hid hat; obtain ⟨A7, c7, rfl⟩ := own_slice' hown; clear F7 b7 hfr hown hat))) | fail
                all_goals
                  have PR := RS6.out.push1 (e := sentE nn) ⟨rfl, rfl⟩ K8.out P11.out P12.out P13.out HF7.out HO7.out HA7.out
                  obtain ⟨w12, hrun, hm12, hf12⟩ := PR.m1.putb (P' := sentAt 1 (wl ++ [(1, sentE nn)])) (by unfold maxLen; omega) nn hwn (sentAt_same 1 wl nn)
                  have HB12 := Frm.below (HB7.out.setCell (p := ⟨gx, 1, none⟩) RS6.out.ge.1 (.slice A7 ((only 1 wl).length + 1) c7)) hf12 (Nat.le_trans HB7.out.size (by simp)) (fun i e => by have := RS6.out.ge; omega)
                  have REL := Lib.hid (LR.mk' t2 WL.out (OKH.out.snoc 1 (sentE nn) (by decide) ⟨rfl, rfl⟩ (fun h => by cases h)) (Nat.le_refl _) (by rw [same_said wl 0 1 (sentE nn) (.inr (by decide))]; exact (PR.map1 hm12 hf12).to1) HB12)
                  have y_ := PR.bs.cell 1
                  simp only [List.getElem?_toArray, List.getElem?_cons_zero, List.getElem?_cons_succ] at y_
                  clear PR HB12 hm12 hf12 cx7 fx7 HF7 HO7 HA7 HB7 K8 x8_ x8a s8
                  go_wp2_with fail
                  go_roundw
                  case rel => exact REL.out _ (by go_num)
                  case measure => simp [intOf]; omega
              · obtain ⟨q, hq⟩ : ∃ q, decide (sentAt 0 wl nn) = q := ⟨_, rfl⟩
                have LK := RS6.out.m0.lookb nn hwn q hq
                have QQ := Lib.hid hq
                clear hq
                cases q
                · go_upto_region 11 with (go_at_call 5; (with_reducible refine (within_any (act.tdiv 2) 3 _ (by decide) (by decide)).mono ?_); rintro r _ ⟨rfl, rfl⟩; rw [KK.out])
                  first | (go_region_law (first
                    | (go_simp; go_at_call 7; (with_reducible refine (sent_any _ nn).mono ?_); rintro r w8 ⟨rfl, hb8⟩; have K8 := Lib.hid (drew_below hb8); have x8_ := (K8.out.cell (World.block_lt_of_cell? w6 _ x1_)).trans x1_; have s8 : w.heap.size ≤ w8.heap.size := Nat.le_trans s6 K8.out.size; have x8a := fun o => cell_in_alloc x8_ o; clear hb8)
                    | (refine step_app (v := .slice A1_ (only 1 wl).length c1_) w.heap.size (by rfl) _ _ 28 27 _ 12 128 (by rfl) Try.underlying28 HI.out rfl (by omega) (by omega) (by rfl) (by rfl) ((own_frm P11.out (Frm.of_below (S := fun _ => False) K8.out) (fun _ _ h => h)).alloc _) (Sl.boxk w8 27 12 (ecells (sentE nn) (nilV, nilV)) _ (by simp) rfl (EV.one (EV.bare SN w8 (sentE nn) rfl rfl))) (by omega) (Nat.le_trans s8 (by simp)) ?_; intro v7 w7 hown hfr hat; have F7 : Frm (fun j => (Value.slice A1_ (only 1 wl).length c1_).ownBlock = some j) w6 w7 := ((Frm.of_below K8.out).alloc _).trans hfr; have b7 := RS6.out.bx.frm F7 (fun e => (RS6.out.a1 gx e).1 rfl); have cx7 := b7.cell 1; have fx7 := b7.free 1; simp only [List.getElem?_toArray, List.getElem?_cons_zero, List.getElem?_cons_succ] at cx7; have HB7 := Lib.hid (Frm.below B6.out F7 s6 (fun i e => (RS6.out.r1.own i e).1)); have HF7 := Lib.hid hfr; have HO7 := Lib.hid hown; have HA7 := Lib.hid hat; obtain ⟨A7, c7, rfl⟩ := own_slice' hown; clear F7 b7 hfr hown hat))) | fail
                  all_goals
                    have PR := RS6.out.push1 (e := sentE nn) ⟨rfl, rfl⟩ K8.out P11.out P12.out P13.out HF7.out HO7.out HA7.out
                    obtain ⟨w12, hrun, hm12, hf12⟩ := PR.m1.putb (P' := sentAt 1 (wl ++ [(1, sentE nn)])) (by unfold maxLen; omega) nn hwn (sentAt_same 1 wl nn)
                    have HB12 := Frm.below (HB7.out.setCell (p := ⟨gx, 1, none⟩) RS6.out.ge.1 (.slice A7 ((only 1 wl).length + 1) c7)) hf12 (Nat.le_trans HB7.out.size (by simp)) (fun i e => by have := RS6.out.ge; omega)
                    have REL := Lib.hid (LR.mk' t2 WL.out (OKH.out.snoc 1 (sentE nn) (by decide) ⟨rfl, rfl⟩ (fun h => by cases h)) (Nat.le_refl _) (by rw [same_said wl 0 1 (sentE nn) (.inr (by decide))]; exact (PR.map1 hm12 hf12).to1) HB12)
                    have y_ := PR.bs.cell 1
                    simp only [List.getElem?_toArray, List.getElem?_cons_zero, List.getElem?_cons_succ] at y_
                    clear PR HB12 hm12 hf12 cx7 fx7 HF7 HO7 HA7 HB7 K8 x8_ x8a s8
                    go_wp2_with fail
                    go_roundw
                    case rel => exact REL.out _ (by go_num)
                    case measure => simp [intOf]; omega
                · go_upto_region 7 with (go_at_call 5; (with_reducible refine (within_any (act.tdiv 2) 3 _ (by decide) (by decide)).mono ?_); rintro r _ ⟨rfl, rfl⟩; rw [KK.out])
                  first | (go_region_law (first
                    | (go_simp; go_at_call 6; (with_reducible refine (came_any _ nn).mono ?_); rintro r w8 ⟨rfl, hb8⟩; have K8 := Lib.hid (drew_below hb8); have x8_ := (K8.out.cell (World.block_lt_of_cell? w6 _ x1_)).trans x1_; have s8 : w.heap.size ≤ w8.heap.size := Nat.le_trans s6 K8.out.size; have x8a := fun o => cell_in_alloc x8_ o; clear hb8)
                    | (refine step_app (v := .slice A1_ (only 1 wl).length c1_) w.heap.size (by rfl) _ _ 28 27 _ 12 128 (by rfl) Try.underlying28 HI.out rfl (by omega) (by omega) (by rfl) (by rfl) ((own_frm P11.out (Frm.of_below (S := fun _ => False) K8.out) (fun _ _ h => h)).alloc _) (Sl.boxk w8 27 12 (ecells (cameE nn) (nilV, nilV)) _ (by simp) rfl (EV.one (EV.bare SN w8 (cameE nn) rfl rfl))) (by omega) (Nat.le_trans s8 (by simp)) ?_; intro v7 w7 hown hfr hat; have F7 : Frm (fun j => (Value.slice A1_ (only 1 wl).length c1_).ownBlock = some j) w6 w7 := ((Frm.of_below K8.out).alloc _).trans hfr; have b7 := RS6.out.bx.frm F7 (fun e => (RS6.out.a1 gx e).1 rfl); have cx7 := b7.cell 1; have fx7 := b7.free 1; simp only [List.getElem?_toArray, List.getElem?_cons_zero, List.getElem?_cons_succ] at cx7; have HB7 := Lib.hid (Frm.below B6.out F7 s6 (fun i e => (RS6.out.r1.own i e).1)); have HF7 := Lib.hid hfr; have HO7 := Lib.hid hown; have HA7 := Lib.hid hat; obtain ⟨A7, c7, rfl⟩ := own_slice' hown; clear F7 b7 hfr hown hat))) | fail
                  all_goals
                    have PR := RS6.out.push1 (e := cameE nn) ⟨rfl, rfl⟩ K8.out P11.out P12.out P13.out HF7.out HO7.out HA7.out
                    have REL := Lib.hid (LR.mk' t2 WL.out (OKH.out.snoc 1 (cameE nn) (by decide) ⟨rfl, rfl⟩ (fun _ => ⟨sentE nn, (show ((1 : Int) - 1, sentE nn) ∈ wl from of_decide_eq_true QQ.out), rfl, rfl⟩)) (Nat.le_succ _) (by rw [same_said wl 0 1 (cameE nn) (.inl (by simp [cameE])), same_said wl 1 1 (cameE nn) (.inl (by simp [cameE]))]; exact PR.to1) (HB7.out.setCell (p := ⟨gx, 1, none⟩) RS6.out.ge.1 (.slice A7 ((only 1 wl).length + 1) c7)))
                    clear PR cx7 fx7 HF7 HO7 HA7 HB7 K8 x8_ x8a s8
                    (try go_wp2_with fail)
                    go_roundw
                    case rel => exact REL.out _ (by go_num)
                    case measure => simp [intOf]; omega
          · have u2 : ¬ (k : Int) < 24 := by omega
            go_wp2_with fail
            go_meet
            exact ⟨v0, v1, wl, OKH.out, by rw [WL.out]; omega, RSH.out.more hk, BR.out⟩
        · have u1 : ¬ (k : Int) < (len1 : Int) := by omega
          go_wp2_with fail
          go_meet
          exact ⟨v0, v1, wl, OKH.out, by rw [WL.out]; omega, RSH.out.more hk, BR.out⟩
      · have u0 : ¬ (k : Int) < (len0 : Int) := by omega
        go_wp2_with fail
        go_meet
        exact ⟨v0, v1, wl, OKH.out, by rw [WL.out]; omega, RSH.out.more hk, BR.out⟩
  case rest =>
    obtain ⟨v0, v1, wl, hok, hlen, hrs, hb⟩ := hcut
    have BR := Lib.hid hb
    have sr : w.heap.size ≤ wc.heap.size := hb.size
    obtain ⟨l, hJ, hR⟩ := J_right (⟨rfl, rfl, hok.c, hok.t⟩ : Right (only 0 wl) (only 1 wl) wl)
    have hl0 : (only 0 wl).length ≤ 24 := by have := only_length 0 wl; omega
    have hl1 : (only 1 wl).length ≤ 24 := by have := only_length 1 wl; omega
    have hll := hR.len
    have SM := Lib.hid (right_small hR (hok.bare 0) (hok.bare 1))
    have B0 := Lib.hid (hok.bare 0)
    have B1 := Lib.hid (hok.bare 1)
    have RR := Lib.hid hR
    have JJ := Lib.hid hJ
    have RSH := Lib.hid hrs
    obtain ⟨A0_, c0_, rfl⟩ := hrs.r0.form
    obtain ⟨A1_, c1_, rfl⟩ := hrs.r1.form
    have x0_ := RSH.out.bx.cell 0
    have x1_ := RSH.out.bx.cell 1
    simp only [List.getElem?_toArray, List.getElem?_cons_zero, List.getElem?_cons_succ] at x0_ x1_
    clear hok hJ hR hrs hb HS
    go_wp2_with fail
    refine (join_at _ SN _ _ (only 0 wl) (only 1 wl) (RSH.out.r0.row (fun a b hab => EV.one hab)) (RSH.out.r1.row (fun a b hab => EV.one hab)) (by omega) (by omega) B0.out.small B1.out.small l 0 0 true JJ.out).mono ?_
    rintro r w2 ⟨A, c, D, rfl, hr, hb2⟩
    obtain ⟨A', c', ea, hcl, _⟩ := hr.len
    injection ea with eA eb ec
    subst eA ec
    clear eb
    have NR := Lib.hid hr
    have RS2 := Lib.hid (RSH.out.below hb2)
    have BR2 := Lib.hid (BR.out.on (Nat.le_refl _) hb2)
    have E0 := Lib.hid (show ERow SN w2 (.slice A0_ (only 0 wl).length c0_) (only 0 wl) from RS2.out.r0.row (fun a b hab => EV.one hab))
    have E1 := Lib.hid (show ERow SN w2 (.slice A1_ (only 1 wl).length c1_) (only 1 wl) from RS2.out.r1.row (fun a b hab => EV.one hab))
    have KE : Hid (∀ W, Below w2.heap.size w2 W → W.cell? ⟨gx, 0, none⟩ = some (.slice A0_ (only 0 wl).length c0_) ∧ W.cell? ⟨gx, 1, none⟩ = some (.slice A1_ (only 1 wl).length c1_)) := Lib.hid (fun W hW => ⟨(RS2.out.bx.below hW).cell 0, (RS2.out.bx.below hW).cell 1⟩)
    have hne : ((l.length : Int) != ((only 0 wl).length : Int) + ((only 1 wl).length : Int)) = false := by rw [hll]; simp
    have iwl : IntKind.i64.wrap (((only 0 wl).length : Int) + ((only 1 wl).length : Int)) = ((only 0 wl).length : Int) + ((only 1 wl).length : Int) := IntWalk.i64_in _ ⟨by omega, by omega⟩
    have R0 := RR.out.o0
    have R1 := RR.out.o1
    have sr2 : w.heap.size ≤ w2.heap.size := Nat.le_trans sr hb2.size
    have hll2 : l.length ≤ 100 := by omega
    have G : Hid (Below w2.heap.size w2 w2.drew) := Lib.hid ((Below.refl _ _).drew)
    clear hr hb2 x0_ x1_ RSH BR hll
    go_wp2_with fail
    first | (go_region_held3 (fun w' => w'.cell? ⟨gx, 0, none⟩ = some (.slice A0_ (only 0 wl).length c0_) ∧ w'.cell? ⟨gx, 1, none⟩ = some (.slice A1_ (only 1 wl).length c1_)) (first | with_reducible exact KE.out _ G.out | go_keep) (first
      | (go_at_call 10; (with_reducible refine (only_any _ D _ l 0 (NR.out.below G.out) (by omega) SM.out).mono ?_); rintro r wz ⟨u0, S0, rfl, he_, hb_⟩; rw [R0] at he_; obtain ⟨B0_, d0, rfl, _⟩ := RowV.len he_; have F0 := Lib.hid he_; have g_ := Below.on G.out (Nat.le_refl _) hb_; clear G hb_ he_; have G := Lib.hid g_; clear g_)
      | (go_at_call 10; (with_reducible refine (only_any _ D _ l 1 (NR.out.below G.out) (by omega) SM.out).mono ?_); rintro r wz ⟨u0, S0, rfl, he_, hb_⟩; rw [R1] at he_; obtain ⟨B0_, d0, rfl, _⟩ := RowV.len he_; have F1 := Lib.hid he_; have g_ := Below.on G.out (Nat.le_refl _) hb_; clear G hb_ he_; have G := Lib.hid g_; clear g_)
      | (go_at_call 9; (with_reducible refine (all_at _ _ SN _ _ (only 0 wl) (only 0 wl) true (by simp) F0.out (E0.out.below G.out)).mono ?_); rintro r wz ⟨rfl, hb_⟩; clear F0; have g_ := Below.on G.out (Nat.le_refl _) hb_; clear G hb_; have G := Lib.hid g_; clear g_)
      | (go_at_call 9; (with_reducible refine (all_at _ _ SN _ _ (only 1 wl) (only 1 wl) true (by simp) F1.out (E1.out.below G.out)).mono ?_); rintro r wz ⟨rfl, hb_⟩; clear F1; have g_ := Below.on G.out (Nat.le_refl _) hb_; clear G hb_; have G := Lib.hid g_; clear g_))) | fail
    have NR3 := Lib.hid (NR.out.below G.out)
    have BR3 := Lib.hid (BR2.out.trans (G.out.mono sr2))
    have sr3 : w.heap.size ≤ wz.heap.size := BR3.out.size
    clear NR RS2 BR2 E0 E1 KE G hne iwl R0 R1 SM B0 B1 JJ
    go_wp2_with fail
    go_loopw [147] (fun i wr => ∃ j : Nat, j ≤ l.length ∧ i = .int .i64 j ∧ Below wz.heap.size wz wr) (fun i _ => l.length - (intOf i).toNat)
    case atStart => exact ⟨0, Nat.zero_le _, rfl, Below.refl _ _⟩
    case round =>
      obtain ⟨j, hj, rfl, hbq⟩ := hrel
      have BQ := Lib.hid hbq
      have sq : wz.heap.size ≤ wr.heap.size := hbq.size
      clear hbq
      by_cases hjl : j < l.length
      · have j0 : (0 : Int) ≤ (j : Int) := by omega
        have j1 : (j : Int) < (l.length : Int) := by omega
        have iwj : IntKind.i64.wrap ((j : Int) + 1) = (j : Int) + 1 := IntWalk.i64_in _ ⟨by omega, by omega⟩
        obtain ⟨ad2, q, e, x, y, rfl, he, hx, hce⟩ := NRow.ev (NR3.out.below BQ.out) hjl
        obtain ⟨a0_, a1_, a2, a3, a4, a5, a6, a7, a8, a9, a10, a11, a12⟩ := hce
        obtain ⟨X1, z1_, rfl, _⟩ := hx.1.len
        obtain ⟨Y1, z2_, rfl, _⟩ := hx.2.len
        have HE := Lib.hid he
        clear hx he
        by_cases hk4 : e.kind = 4
        · have q4 : (e.kind != 4) = false := by simp [hk4]
          have HK4 := Lib.hid hk4
          clear hk4
          have jc : (j : Int) ≤ (c : Int) := by omega
          go_wp2_with fail
          have BE := Lib.hid (Blk.new wr #[.int .i64 q, .int .i64 e.kind, .int .i64 e.n, .slice X1 e.data.length z1_, .int .i64 e.pk.kind, .int .i64 e.pk.path, .int .i64 e.pk.number, .int .i64 e.pk.of_, .int .i64 e.pk.from_, .slice Y1 e.pk.data.length z2_, .bool e.pk.fin, .int .i64 e.pk.seen, .int .i64 e.pk.limit] 37)
          have K1 := Lib.hid (BQ.out.alloc sq (.cells #[.int .i64 q, .int .i64 e.kind, .int .i64 e.n, .slice X1 e.data.length z1_, .int .i64 e.pk.kind, .int .i64 e.pk.path, .int .i64 e.pk.number, .int .i64 e.pk.of_, .int .i64 e.pk.from_, .slice Y1 e.pk.data.length z2_, .bool e.pk.fin, .int .i64 e.pk.seen, .int .i64 e.pk.limit] 37))
          obtain ⟨gE, hgE⟩ : ∃ g, g = wr.heap.size := ⟨_, rfl⟩
          obtain ⟨W1, hW1⟩ : ∃ W, W = wr.alloc (.cells #[.int .i64 q, .int .i64 e.kind, .int .i64 e.n, .slice X1 e.data.length z1_, .int .i64 e.pk.kind, .int .i64 e.pk.path, .int .i64 e.pk.number, .int .i64 e.pk.of_, .int .i64 e.pk.from_, .slice Y1 e.pk.data.length z2_, .bool e.pk.fin, .int .i64 e.pk.seen, .int .i64 e.pk.limit] 37) := ⟨_, rfl⟩
          rw [← hW1, ← hgE] at BE
          rw [← hW1] at K1
          rw [← hW1, ← hgE]
          clear hW1 hgE BQ a0_ a1_ a2 a3 a4 a5 a6 a7 a8 a9 a10 a11 a12 sq
          have s1 : wz.heap.size ≤ W1.heap.size := K1.out.size
          go_loopw [16, 160] (fun f i wr => ∃ m : Nat, m ≤ j ∧ i = .int .i64 m ∧ f = .bool (fnd l q e.pk.number m) ∧ Below W1.heap.size W1 wr) (fun _ i _ => j - (intOf i).toNat)
          case atStart => exact ⟨0, Nat.zero_le _, rfl, rfl, Below.refl _ _⟩
          case round =>
            obtain ⟨m, hm, rfl, rfl, hbm⟩ := hrel
            have KM := Lib.hid hbm
            have sm : W1.heap.size ≤ wr.heap.size := hbm.size
            clear hbm
            by_cases hmj : m < j
            · have m0 : (0 : Int) ≤ (m : Int) := by omega
              have m1 : (m : Int) < (j : Int) := by omega
              have iwm : IntKind.i64.wrap ((m : Int) + 1) = (m : Int) + 1 := IntWalk.i64_in _ ⟨by omega, by omega⟩
              obtain ⟨ad3, q2, e2, x, y, ea3, he2, hx, hce⟩ := NRow.ev (NR3.out.below (K1.out.on (Nat.le_refl _) KM.out)) (show m < l.length by omega)
              injection ea3 with ea3
              subst ea3
              obtain ⟨b0, b1, b2, b3, b4, b5, b6, b7, b8, b9, b10, b11, b12⟩ := hce
              obtain ⟨X2, z3_, rfl, _⟩ := hx.1.len
              obtain ⟨Y2, z4_, rfl, _⟩ := hx.2.len
              have FS := Lib.hid (fnd_succ l q e.pk.number m (q2, e2) he2)
              have be := BE.out.below KM.out
              have e0 := cell_in_alloc (be.cell 0) (.cells #[.int .i64 q2, .int .i64 e2.kind, .int .i64 e2.n, .slice X2 e2.data.length z3_, .int .i64 e2.pk.kind, .int .i64 e2.pk.path, .int .i64 e2.pk.number, .int .i64 e2.pk.of_, .int .i64 e2.pk.from_, .slice Y2 e2.pk.data.length z4_, .bool e2.pk.fin, .int .i64 e2.pk.seen, .int .i64 e2.pk.limit] 37)
              have e6 := cell_in_alloc (be.cell 6) (.cells #[.int .i64 q2, .int .i64 e2.kind, .int .i64 e2.n, .slice X2 e2.data.length z3_, .int .i64 e2.pk.kind, .int .i64 e2.pk.path, .int .i64 e2.pk.number, .int .i64 e2.pk.of_, .int .i64 e2.pk.from_, .slice Y2 e2.pk.data.length z4_, .bool e2.pk.fin, .int .i64 e2.pk.seen, .int .i64 e2.pk.limit] 37)
              have f0 := be.cell 0
              have f6 := be.cell 6
              simp only [List.getElem?_toArray, List.getElem?_cons_zero, List.getElem?_cons_succ] at e0 e6 f0 f6
              obtain ⟨F, hF⟩ : ∃ F, fnd l q e.pk.number m = F := ⟨_, rfl⟩
              obtain ⟨c1, hc1⟩ : ∃ b, (q2 != q) = b := ⟨_, rfl⟩
              obtain ⟨c2, hc2⟩ : ∃ b, (e2.kind == 5) = b := ⟨_, rfl⟩
              obtain ⟨c3, hc3⟩ : ∃ b, (e2.pk.number == e.pk.number) = b := ⟨_, rfl⟩
              have FM : Hid (fnd l q e.pk.number (m + 1) = (F || (c1 && c2 && c3))) := Lib.hid (by rw [FS.out, hF, ← hc1, ← hc2, ← hc3])
              rw [hF]
              clear hx he2 be FS hF
              cases F
              · cases c1
                · go_wp2_with fail
                  go_roundw
                  case rel => exact ⟨m + 1, by omega, by go_num, by rw [FM.out]; rfl, KM.out.alloc sm _⟩
                  case measure => simp [intOf]; omega
                · cases c2
                  · go_wp2_with fail
                    go_roundw
                    case rel => exact ⟨m + 1, by omega, by go_num, by rw [FM.out]; rfl, KM.out.alloc sm _⟩
                    case measure => simp [intOf]; omega
                  · cases c3
                    · go_wp2_with fail
                      go_roundw
                      case rel => exact ⟨m + 1, by omega, by go_num, by rw [FM.out]; rfl, KM.out.alloc sm _⟩
                      case measure => simp [intOf]; omega
                    · go_wp2_with fail
                      go_roundw
                      case rel => exact ⟨m + 1, by omega, by go_num, by rw [FM.out]; rfl, KM.out.alloc sm _⟩
                      case measure => simp [intOf]; omega
              · go_wp2_with fail
                go_roundw
                case rel => exact ⟨m + 1, by omega, by go_num, by rw [FM.out]; rfl, KM.out.alloc sm _⟩
                case measure => simp [intOf]; omega
            · have m1 : ¬ (m : Int) < (j : Int) := by omega
              obtain rfl : m = j := by omega
              have hf := fnd_caus RR.out.c RR.out.t m q e HE.out HK4.out
              rw [hf]
              clear hf
              go_wp2_with fail
              go_roundw
              case rel => exact ⟨m + 1, hjl, by go_num, K1.out.trans (KM.out.mono s1)⟩
              case measure => simp [intOf]; omega
        · have q4 : (e.kind != 4) = true := by simpa using hk4
          clear hk4
          go_wp2_with fail
          go_roundw
          case rel => exact ⟨j + 1, hjl, by go_num, BQ.out.alloc sq _⟩
          case measure => simp [intOf]; omega
      · have j1 : ¬ (j : Int) < (l.length : Int) := by omega
        go_wp2_with fail
        refine (wakes_any _).mono ?_
        rintro r w9 ⟨rfl, hb9⟩
        have hbb := BR3.out.trans ((BQ.out.trans (hb9.mono sq)).mono sr3)
        clear hb9
        go_wp2_with fail
        go_ret
        exact ⟨rfl, hbb⟩
end Go.Proofs.Ytoplcndiejpipaa
