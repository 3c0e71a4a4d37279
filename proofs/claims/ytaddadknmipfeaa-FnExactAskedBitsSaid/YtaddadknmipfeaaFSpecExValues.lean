/- Contracts: spec_exValues, impl_values. -/
import Derived.Test.YtaddadknmipfeaaFK
import Derived.Test.YtaddadknmipfeaaFLawsSzNode
import Derived.Test.YtaddadknmipfeaaFSpecExApply
namespace Go.Proofs.Ytaddadknmipfeaa.F
open Go.RowKit Go.Proofs.YtaddadknmipfeaaW.PrintWords Go.Proofs.YtaddadknmipfeaaW.PrintLast Go.Proofs.YtaddadknmipfeaaW.PrintMore
attribute [local go_sem] max2_int min2_int max_two min_two max_three min_three max_four min_four   -- for this text's walks alone
set_option linter.unusedVariables false
set_option linter.unusedSimpArgs false

/-! ### spec_exValues: function 102 -/
mutual
def spec_exValues.l0 : Nat → Int → Int → List Int → List (S89) → Int → Int → Option (List Int)
  | 0, _, _, _, _, _, _ => none
  | k + 1, x1, x2, x7, x10, x11, x12 => if x12 < x11 then (if 0 ≤ x12 then (if x12 < (x10.length : Int) then (if ((rd_T89 x10 x12).f0).toList = ([99, 111, 110, 115, 116] : List UInt8) then (if x7.length < 17592186044416 then (spec_exValues.l0 k x1 x2 (x7 ++ [(rd_T89 x10 x12).f3]) x10 x11 (wrap64 (x12 + 1))) else (none)) else (if ((rd_T89 x10 x12).f0).toList = ([105, 110] : List UInt8) then (spec_exValues.j1 k x1 x2 x7 x10 x11 x12 (((rd_T89 x10 x12).f3) == 0) ((rd_T89 x10 x12).f0) ((rd_T89 x10 x12).f1) ((rd_T89 x10 x12).f2) ((rd_T89 x10 x12).f3)) else (spec_exValues.j1 k x1 x2 x7 x10 x11 x12 false ((rd_T89 x10 x12).f0) ((rd_T89 x10 x12).f1) ((rd_T89 x10 x12).f2) ((rd_T89 x10 x12).f3)))) else (none)) else (none)) else (some x7)
def spec_exValues.j1 : Nat → Int → Int → List Int → List (S89) → Int → Int → Bool → ByteArray → Int → Int → Int → Option (List Int)
  | 0, _, _, _, _, _, _, _, _, _, _, _ => none
  | k + 1, x1, x2, x7, x10, x11, x12, x41, x583000, x583001, x583002, x583003 => if x41 = true then (if x7.length < 17592186044416 then (spec_exValues.l0 k x1 x2 (x7 ++ [x1]) x10 x11 (wrap64 (x12 + 1))) else (none)) else (if x583000.toList = ([105, 110] : List UInt8) then (if x7.length < 17592186044416 then (spec_exValues.l0 k x1 x2 (x7 ++ [x2]) x10 x11 (wrap64 (x12 + 1))) else (none)) else ((spec_exOne.f x583000).bind fun t592 => (if t592 = true then (if 0 ≤ x583001 then (if x583001 < (x7.length : Int) then ((spec_exApply.f x583000 (rd x7 x583001) 0).bind fun t594 => (if x7.length < 17592186044416 then (spec_exValues.l0 k x1 x2 (x7 ++ [t594]) x10 x11 (wrap64 (x12 + 1))) else (none))) else (none)) else (none)) else (if 0 ≤ x583001 then (if x583001 < (x7.length : Int) then (if 0 ≤ x583002 then (if x583002 < (x7.length : Int) then ((spec_exApply.f x583000 (rd x7 x583001) (rd x7 x583002)).bind fun t600 => (if x7.length < 17592186044416 then (spec_exValues.l0 k x1 x2 (x7 ++ [t600]) x10 x11 (wrap64 (x12 + 1))) else (none))) else (none)) else (none)) else (none)) else (none)))))
end
def spec_exValues.f (k : Nat) (l0 : List (S89)) (a1 : Int) (a2 : Int) : Option (List Int) := spec_exValues.l0 k a1 a2 ([] : List Int) l0 (l0.length : Int) 0
theorem spec_exValues.mono_l : ∀ k, (∀ y0 y1 y2 y3 y4 y5, LeO (spec_exValues.l0 k y0 y1 y2 y3 y4 y5) (spec_exValues.l0 (k + 1) y0 y1 y2 y3 y4 y5)) ∧ (∀ y0 y1 y2 y3 y4 y5 y6 y7 y8 y9 y10, LeO (spec_exValues.j1 k y0 y1 y2 y3 y4 y5 y6 y7 y8 y9 y10) (spec_exValues.j1 (k + 1) y0 y1 y2 y3 y4 y5 y6 y7 y8 y9 y10))
  | 0 => ⟨fun _ _ _ _ _ _ r h => by simp [spec_exValues.l0] at h, fun _ _ _ _ _ _ _ _ _ _ _ r h => by simp [spec_exValues.j1] at h⟩
  | k + 1 => by
    obtain ⟨ih0, ih1⟩ := spec_exValues.mono_l k
    refine ⟨?_, ?_⟩
    · intro y0 y1 y2 y3 y4 y5
      unfold spec_exValues.l0
      repeat' first
      | (with_reducible exact ih0 _ _ _ _ _ _)
      | (with_reducible exact ih1 _ _ _ _ _ _ _ _ _ _ _)
      | (with_reducible exact LeO.refl _)
      | (with_reducible exact LeO.none _)
      | (with_reducible refine LeO.ite ?_ ?_)
      | (with_reducible refine LeO.bind ?_ (fun _ => ?_))
      | exact ih0 _ _ _ _ _ _
      | exact ih1 _ _ _ _ _ _ _ _ _ _ _
      | exact LeO.none _
      | refine LeO.ite ?_ ?_
      | refine LeO.bind ?_ (fun _ => ?_)
    · intro y0 y1 y2 y3 y4 y5 y6 y7 y8 y9 y10
      unfold spec_exValues.j1
      repeat' first
      | (with_reducible exact ih0 _ _ _ _ _ _)
      | (with_reducible exact ih1 _ _ _ _ _ _ _ _ _ _ _)
      | (with_reducible exact LeO.refl _)
      | (with_reducible exact LeO.none _)
      | (with_reducible refine LeO.ite ?_ ?_)
      | (with_reducible refine LeO.bind ?_ (fun _ => ?_))
      | exact ih0 _ _ _ _ _ _
      | exact ih1 _ _ _ _ _ _ _ _ _ _ _
      | exact LeO.none _
      | refine LeO.ite ?_ ?_
      | refine LeO.bind ?_ (fun _ => ?_)
theorem spec_exValues.mono : ∀ a0 a1 a2 k, LeO (spec_exValues.f k a0 a1 a2) (spec_exValues.f (k + 1) a0 a1 a2) := by
  intro a0 a1 a2 k
  obtain ⟨ih0, ih1⟩ := spec_exValues.mono_l k
  unfold spec_exValues.f
  repeat' first
      | (with_reducible exact ih0 _ _ _ _ _ _)
      | (with_reducible exact ih1 _ _ _ _ _ _ _ _ _ _ _)
      | (with_reducible exact LeO.refl _)
      | (with_reducible exact LeO.none _)
      | (with_reducible refine LeO.ite ?_ ?_)
      | (with_reducible refine LeO.bind ?_ (fun _ => ?_))
      | exact ih0 _ _ _ _ _ _
      | exact ih1 _ _ _ _ _ _ _ _ _ _ _
      | exact LeO.none _
      | refine LeO.ite ?_ ?_
      | refine LeO.bind ?_ (fun _ => ?_)
def spec_exValues.T5 : Bool × List (List Nat × List Nat) := (true, [([], []), ([], []), ([1], [1]), ([], []), ([], []), ([4], [4]), ([3, 5], [3, 5]), ([6], [6]), ([], []), ([], []), ([9], [9]), ([8, 10], [8, 10]), ([11], [11]), ([2, 7, 12], [2, 7, 12]), ([13], [13]), ([0, 14, 13], [0, 14]), ([15, 15, 0, 1, 2, 3, 4, 5, 6, 7, 8, 9, 10, 11, 12, 13, 14, 15], [0, 3, 8, 15])])
def spec_exValues.B5 : List Nat := [0, 0, 2, 0, 0, 16, 56, 120, 0, 0, 512, 1792, 3840, 8190, 16382, 32767, 65535]
theorem spec_exValues.tab5 : rtab .any (opsOf Try.f102 5) = spec_exValues.T5 := by kernel_rfl
theorem spec_exValues.bits5 : waitsOk spec_exValues.T5.2 spec_exValues.B5 = true := by kernel_rfl
def spec_exValues.T13 : Bool × List (List Nat × List Nat) := (true, [([], []), ([], []), ([1], [1]), ([], []), ([], []), ([4], [4]), ([3, 5], [3, 5]), ([6], [6]), ([2, 7], [2, 7]), ([8], [8]), ([0, 9, 8], [0, 9]), ([10, 10, 0, 1, 2, 3, 4, 5, 6, 7, 8, 9, 10], [0, 3, 10])])
def spec_exValues.B13 : List Nat := [0, 0, 2, 0, 0, 16, 56, 120, 254, 510, 1023, 2047]
theorem spec_exValues.tab13 : rtab .any (opsOf Try.f102 13) = spec_exValues.T13 := by kernel_rfl
theorem spec_exValues.bits13 : waitsOk spec_exValues.T13.2 spec_exValues.B13 = true := by kernel_rfl
set_option maxHeartbeats 8000000 in
set_option maxRecDepth 100000 in
theorem spec_exValues.calls (k : Nat) (A0 : Option Addr) (c0 : Nat) (l0 : List (S89)) (a1 : Int) (a2 : Int) (r : List Int) (w : World) (hr0 : Kd.C k89 w A0 l0.length l0) (hc0 : l0.length ≤ c0) (h : spec_exValues.f k l0 a1 a2 = some r) :
    Calls Try.prog 102 #[.slice A0 l0.length c0, .int .i64 a1, .int .i64 a2] w fun e w' => ∃ v0_ : Value, e = .returned (v0_) ∧ Kd.R (Kd.int .i64) 3 w' w.heap.size (fun _ => True) v0_ r ∧ Below w.heap.size w w' := by
  have hu89 := Try.underlying89
  have HR0 := Aside0.mk hr0
  have HC0 := Aside0.mk hc0
  clear hr0 hc0
  have HB := Aside0.mk (Below.refl w.heap.size w)
  have H : (spec_exValues.l0 k a1 a2 ([] : List Int) l0 (l0.length : Int) 0) = some r := h
  clear h
  have H' := Aside0.mk H
  clear H
  go_enter Try.func102, Try.ntmps102
  go_wp2
  go_loopg [7, 12] k (fun kq v7 v12 w' => ∃ (x7_1 : List Int) (x12_1 : Int), v12 = .int .i64 x12_1 ∧ Aside0 (spec_exValues.l0 kq a1 a2 x7_1 l0 (l0.length : Int) x12_1 = some r) ∧ Aside0 (kq ≤ k) ∧ Aside0 (Kd.R (Kd.int .i64) 3 w' w.heap.size (fun _ => True) v7 x7_1) ∧ Aside0 (Below w.heap.size w w'))
  case atStart => exact ⟨(([] : List Int)), (0), (by first | rfl | (simp; done) | (simp [*]; done)), H', ⟨Nat.le_refl _⟩, ⟨by first | exact Kd.R_nil _ _ _ _ _ | exact Kd.N_nil _ _ _ _ _ | exact Kd.V_nil _ _ _ _ _ | exact Kd.Q_nil _ _ _ _ _ | exact Kd.S_nil _ _ _ _ _⟩, ⟨by repeat (first | (with_reducible first | exact HB.out | apply below_alloc | apply pw_below_drewN | apply below_drew1) | exact HB.out)⟩⟩
  case round =>
    clear H'
    try clear c1
    try clear p2
    obtain ⟨x7_1, x12_1, rfl, HA, HK1, HO_7, HB⟩ := hrel
    cases gk with
    | zero => exact absurd HA.out (by simp [spec_exValues.l0])
    | succ k1 =>
      have H := HA.out
      clear HA
      simp only [spec_exValues.l0] at H
      by_cases c4 : x12_1 < (l0.length : Int)
      · rw [if_pos c4] at H
        have c4b0 : decide (x12_1 < (l0.length : Int)) = true := decide_eq_true c4
        clear c4
        by_cases c5 : 0 ≤ x12_1
        · rw [if_pos c5] at H
          have c5b0 : decide (0 ≤ x12_1) = true := decide_eq_true c5
          clear c5
          by_cases c6 : x12_1 < (l0.length : Int)
          · rw [if_pos c6] at H
            have c6b0 : decide (x12_1 < (l0.length : Int)) = true := decide_eq_true c6
            clear c6
            by_cases c7 : ((rd_T89 l0 x12_1).f0).toList = ([99, 111, 110, 115, 116] : List UInt8)
            · rw [if_pos c7] at H
              have c7b0 : (((rd_T89 l0 x12_1).f0).toList == ([99, 111, 110, 115, 116] : List UInt8)) = true := beq_iff_eq.mpr c7
              have c7b1 : (((rd_T89 l0 x12_1).f0).toList != ([99, 111, 110, 115, 116] : List UInt8)) = false := bne_eq_false_iff_eq.mpr c7
              clear c7
              by_cases c8 : x7_1.length < 17592186044416
              · rw [if_pos c8] at H
                have LMc8 := Aside0.mk c8
                clear c8
                obtain ⟨y583, hy583⟩ : ∃ y_ : List Int, y_ = (x7_1 ++ [(rd_T89 l0 x12_1).f3]) := ⟨_, rfl⟩
                replace H : (spec_exValues.l0 k1 a1 a2 y583 l0 (l0.length : Int) (wrap64 (x12_1 + 1))) = some r := by first | (rw [hy583]; with_reducible exact H) | (have H2_ := (Option.bind_some _ _).symm.trans H; rw [hy583]; with_reducible exact H2_) | (have H2_ := (Option.bind_some _ _).symm.trans H; with_reducible exact H2_) | with_reducible exact H | (rw [hy583]; exact H) | exact H
                have Ny583 := Aside0.mk hy583
                clear hy583
                have H' := Aside0.mk H
                clear H
                have p581 : 0 ≤ (x12_1 : Int) := of_decide_eq_true (by first | (with_reducible assumption) | assumption)
                have q581 : x12_1 < (l0.length : Int) := of_decide_eq_true (by first | (with_reducible assumption) | assumption)
                obtain ⟨ad581, e581, hx581_0, hx581_1, hx581_2, hx581_3⟩ := at_T89 HR0.out x12_1 p581 q581
                cases e581
                replace hx581_0 := (HB.out.cell (World.block_lt_of_cell? w _ hx581_0)).trans hx581_0
                replace hx581_1 := (HB.out.cell (World.block_lt_of_cell? w _ hx581_1)).trans hx581_1
                replace hx581_2 := (HB.out.cell (World.block_lt_of_cell? w _ hx581_2)).trans hx581_2
                replace hx581_3 := (HB.out.cell (World.block_lt_of_cell? w _ hx581_3)).trans hx581_3
                replace p581 := eq_true p581
                replace q581 := eq_true q581
                go_wp2_with (first | ((with_reducible refine gate_dst (N := 9) rfl ?_); refine box_event ?hg (N := 9) ?hd (cs := #[.string (⟨#[]⟩ : ByteArray), .int .i64 0, .int .i64 0, .int .i64 0]) (t := 89) ?hr ?_; (case hd => rfl); (case hg => rfl); (case hr => first | (go_simp; done) | (go_simp; rfl)); intro gb582 hg w9 hbox hb; have n0_ := Aside0.mk (Kd.R_below (by (with_reducible repeat (first | apply Kd.R_alloc | apply Kd.R_drewN | apply Kd.R_drew)); exact HO_7.out) hb); have n1_ := Aside0.mk (below_step (by repeat (first | (with_reducible first | exact HB.out | apply below_alloc | apply pw_below_drewN | apply below_drew1) | exact HB.out)) hb); have n2_ := Aside0.mk (hbox); have n3_ := Aside0.mk ((by rw [hg]; exact (below_size (by repeat (first | (with_reducible first | exact HB.out | apply below_alloc | apply pw_below_drewN | apply below_drew1) | exact HB.out))) : w.heap.size ≤ gb582)); have n4_ := Aside0.mk ((by rw [hg]; exact (below_size (by repeat (first | (with_reducible first | exact HB.out | apply below_alloc | apply pw_below_drewN | apply below_drew1) | exact HB.out))) : w.heap.size ≤ gb582)); clear HO_7; clear HB; have HO_7 := n0_; have HB := n1_; have BK582 := n2_; have GW582 := n3_; have GE582 := n4_; clear n0_ n1_ n2_ n3_ n4_; clear hb hbox hg; have hcz10_0 : w9.cell? ⟨gb582, 0, none⟩ = some (.string (⟨#[]⟩ : ByteArray)) := (blk_cell BK582.out 0).trans rfl; have hcz10_1 : w9.cell? ⟨gb582, 1, none⟩ = some (.int .i64 0) := (blk_cell BK582.out 1).trans rfl; have hcz10_2 : w9.cell? ⟨gb582, 2, none⟩ = some (.int .i64 0) := (blk_cell BK582.out 2).trans rfl; have hcz10_3 : w9.cell? ⟨gb582, 3, none⟩ = some (.int .i64 0) := (blk_cell BK582.out 3).trans rfl; have hfz10_0 := blk_frozen BK582.out 0; have hfz10_1 := blk_frozen BK582.out 1; have hfz10_2 := blk_frozen BK582.out 2; have hfz10_3 := blk_frozen BK582.out 3) | ((with_reducible refine gate_builtin (b := .append) (xs := #[.tmp 36, .tmp 39]) rfl ?_); at_builtin; refine Kd.R_append (Kd.int .i64) (w0 := w) w.heap.size rfl (.tmp 36) (.tmp 39) 24 3 (.int .i64 0) 8 rfl Try.underlying24 info3 rfl (by decide) (by omega) u7 x7_1 ((rd_T89 l0 x12_1).f3) [.int .i64 ((rd_T89 l0 x12_1).f3)] (fun _ => True) (fun _ => False) rfl (by first | (go_simp; done) | (go_simp; rfl)) ?aP (fun _ hk => hk.elim) ?aF ?aO ?aB ?aS ?aL ?_; (case aP => exact rfl); (case aB => exact (by repeat (first | (with_reducible first | exact HB.out | apply below_alloc | apply pw_below_drewN | apply below_drew1 | refine below_set ?_ GE582.out) | exact HB.out))); (case aF => exact (fun _ _ => trivial)); (case aO => exact (by (with_reducible repeat (first | apply Kd.R_alloc | apply Kd.R_drewN | apply Kd.R_drew)); exact Kd.R_mono (Kd.R_far (p := ⟨gb582, 3, none⟩) (Kd.R_far (p := ⟨gb582, 2, none⟩) (Kd.R_far (p := ⟨gb582, 1, none⟩) (Kd.R_far (p := ⟨gb582, 0, none⟩) (Kd.R_types HO_7.out BK582.out (by decide)) (fun _ hk => hk.2) (.string ((rd_T89 l0 x12_1).f0))) (fun _ hk => hk.2) (.int .i64 ((rd_T89 l0 x12_1).f1))) (fun _ hk => hk.2) (.int .i64 ((rd_T89 l0 x12_1).f2))) (fun _ hk => hk.2) (.int .i64 ((rd_T89 l0 x12_1).f3))) (fun _ hk => trivial))); (case aS => exact (below_size (by repeat (first | (with_reducible first | exact HB.out | apply below_alloc | apply pw_below_drewN | apply below_drew1 | refine below_set ?_ GE582.out) | exact HB.out)))); (case aL => have := LMc8.out; omega); intro v584 w11 ho hb hg hat; rw [← Ny583.out] at ho; have n0_ := Aside0.mk (blk_grown (g := gb582) (o := .cells #[.string ((rd_T89 l0 x12_1).f0), .int .i64 ((rd_T89 l0 x12_1).f1), .int .i64 ((rd_T89 l0 x12_1).f2), .int .i64 ((rd_T89 l0 x12_1).f3)] 89 (0, 0)) (by (with_reducible repeat (first | refine blk_drewN ?_ _ | refine blk_drew ?_ | refine blk_alloc ?_ _)); refine blk_put (cs := #[.string ((rd_T89 l0 x12_1).f0), .int .i64 ((rd_T89 l0 x12_1).f1), .int .i64 ((rd_T89 l0 x12_1).f2), .int .i64 0]) ?_ 3 _ rfl; (with_reducible repeat (first | refine blk_drewN ?_ _ | refine blk_drew ?_ | refine blk_alloc ?_ _)); refine blk_put (cs := #[.string ((rd_T89 l0 x12_1).f0), .int .i64 ((rd_T89 l0 x12_1).f1), .int .i64 0, .int .i64 0]) ?_ 2 _ rfl; (with_reducible repeat (first | refine blk_drewN ?_ _ | refine blk_drew ?_ | refine blk_alloc ?_ _)); refine blk_put (cs := #[.string ((rd_T89 l0 x12_1).f0), .int .i64 0, .int .i64 0, .int .i64 0]) ?_ 1 _ rfl; (with_reducible repeat (first | refine blk_drewN ?_ _ | refine blk_drew ?_ | refine blk_alloc ?_ _)); refine blk_put (cs := #[.string (⟨#[]⟩ : ByteArray), .int .i64 0, .int .i64 0, .int .i64 0]) ?_ 0 _ rfl; (with_reducible repeat (first | refine blk_drewN ?_ _ | refine blk_drew ?_ | refine blk_alloc ?_ _)); exact BK582.out) hg (Kd.R_ne HO_7.out BK582.out (by decide))); have n1_ := Aside0.mk (hb); have n2_ := Aside0.mk (ho); clear BK582; clear HB; clear HO_7; have BK582 := n0_; have HB := n1_; have HO585 := n2_; clear n0_ n1_ n2_; clear ho hb hg hat))
                go_roundg k1
                case measure => have := HK1.out; omega
                case rel => exact ⟨(y583), (wrap64 (x12_1 + 1)), (by first | rfl | (simp; done) | (simp [*]; done)), H', ⟨by have := HK1.out; omega⟩, ⟨by (with_reducible repeat (first | apply Kd.R_alloc | apply Kd.R_drewN | apply Kd.R_drew)); exact HO585.out⟩, ⟨by repeat (first | (with_reducible first | exact HB.out | apply below_alloc | apply pw_below_drewN | apply below_drew1 | refine below_set ?_ GE582.out) | exact HB.out)⟩⟩
              · rw [if_neg c8] at H
                exact absurd H (by simp)
            · rw [if_neg c7] at H
              have c7b0 : (((rd_T89 l0 x12_1).f0).toList == ([99, 111, 110, 115, 116] : List UInt8)) = false := beq_eq_false_iff_ne.mpr c7
              have c7b1 : (((rd_T89 l0 x12_1).f0).toList != ([99, 111, 110, 115, 116] : List UInt8)) = true := bne_iff_ne.mpr c7
              have HC12 := Aside0.mk H
              clear H
              have p581 : 0 ≤ (x12_1 : Int) := of_decide_eq_true (by first | (with_reducible assumption) | assumption)
              have q581 : x12_1 < (l0.length : Int) := of_decide_eq_true (by first | (with_reducible assumption) | assumption)
              obtain ⟨ad581, e581, hx581_0, hx581_1, hx581_2, hx581_3⟩ := at_T89 HR0.out x12_1 p581 q581
              cases e581
              replace hx581_0 := (HB.out.cell (World.block_lt_of_cell? w _ hx581_0)).trans hx581_0
              replace hx581_1 := (HB.out.cell (World.block_lt_of_cell? w _ hx581_1)).trans hx581_1
              replace hx581_2 := (HB.out.cell (World.block_lt_of_cell? w _ hx581_2)).trans hx581_2
              replace hx581_3 := (HB.out.cell (World.block_lt_of_cell? w _ hx581_3)).trans hx581_3
              replace p581 := eq_true p581
              replace q581 := eq_true q581
              go_upto_region 8 with (first | ((with_reducible refine gate_dst (N := 9) rfl ?_); refine box_event ?hg (N := 9) ?hd (cs := #[.string (⟨#[]⟩ : ByteArray), .int .i64 0, .int .i64 0, .int .i64 0]) (t := 89) ?hr ?_; (case hd => rfl); (case hg => rfl); (case hr => first | (go_simp; done) | (go_simp; rfl)); intro gb582 hg w13 hbox hb; have n0_ := Aside0.mk (Kd.R_below (by (with_reducible repeat (first | apply Kd.R_alloc | apply Kd.R_drewN | apply Kd.R_drew)); exact HO_7.out) hb); have n1_ := Aside0.mk (below_step (by repeat (first | (with_reducible first | exact HB.out | apply below_alloc | apply pw_below_drewN | apply below_drew1) | exact HB.out)) hb); have n2_ := Aside0.mk (hbox); have n3_ := Aside0.mk ((by rw [hg]; exact (below_size (by repeat (first | (with_reducible first | exact HB.out | apply below_alloc | apply pw_below_drewN | apply below_drew1) | exact HB.out))) : w.heap.size ≤ gb582)); have n4_ := Aside0.mk ((by rw [hg]; exact (below_size (by repeat (first | (with_reducible first | exact HB.out | apply below_alloc | apply pw_below_drewN | apply below_drew1) | exact HB.out))) : w.heap.size ≤ gb582)); clear HO_7; clear HB; have HO_7 := n0_; have HB := n1_; have BK582 := n2_; have GW582 := n3_; have GE582 := n4_; clear n0_ n1_ n2_ n3_ n4_; clear hb hbox hg; have hcz14_0 : w13.cell? ⟨gb582, 0, none⟩ = some (.string (⟨#[]⟩ : ByteArray)) := (blk_cell BK582.out 0).trans rfl; have hcz14_1 : w13.cell? ⟨gb582, 1, none⟩ = some (.int .i64 0) := (blk_cell BK582.out 1).trans rfl; have hcz14_2 : w13.cell? ⟨gb582, 2, none⟩ = some (.int .i64 0) := (blk_cell BK582.out 2).trans rfl; have hcz14_3 : w13.cell? ⟨gb582, 3, none⟩ = some (.int .i64 0) := (blk_cell BK582.out 3).trans rfl; have hfz14_0 := blk_frozen BK582.out 0; have hfz14_1 := blk_frozen BK582.out 1; have hfz14_2 := blk_frozen BK582.out 2; have hfz14_3 := blk_frozen BK582.out 3))
              (try simp only [Act.put, List.setIfInBounds_toArray, List.set_cons_zero, List.set_cons_succ])
              go_cut [41] (fun v41 wc => ∃ (kq : Nat) (x41_11 : Bool), v41 = .bool x41_11 ∧ Aside0 (spec_exValues.j1 kq a1 a2 x7_1 l0 (l0.length : Int) x12_1 x41_11 ((rd_T89 l0 x12_1).f0) ((rd_T89 l0 x12_1).f1) ((rd_T89 l0 x12_1).f2) ((rd_T89 l0 x12_1).f3) = some r) ∧ Aside0 (kq ≤ k1) ∧ Aside0 (Kd.R (Kd.int .i64) 3 wc w.heap.size (fun _ => True) u7 x7_1) ∧ Aside0 (wc.heap[gb582]? = some (.cells #[.string ((rd_T89 l0 x12_1).f0), .int .i64 ((rd_T89 l0 x12_1).f1), .int .i64 ((rd_T89 l0 x12_1).f2), .int .i64 ((rd_T89 l0 x12_1).f3)] 89 (0, 0))) ∧ Aside0 (Below w.heap.size w wc))
              case first =>
                have H := HC12.out
                clear HC12
                by_cases c15 : ((rd_T89 l0 x12_1).f0).toList = ([105, 110] : List UInt8)
                · rw [if_pos c15] at H
                  have c15b0 : (((rd_T89 l0 x12_1).f0).toList == ([105, 110] : List UInt8)) = true := beq_iff_eq.mpr c15
                  have c15b1 : (((rd_T89 l0 x12_1).f0).toList != ([105, 110] : List UInt8)) = false := bne_eq_false_iff_eq.mpr c15
                  clear c15
                  (first | rw [c15b0] | (simp only [i64_w, i32_w]; rw [c15b0]) | skip)
                  have H' := Aside0.mk H
                  clear H
                  have hcz16_0 : w13.cell? ⟨gb582, 0, none⟩ = some (.string (⟨#[]⟩ : ByteArray)) := (blk_cell BK582.out 0).trans rfl
                  have hcz16_1 : w13.cell? ⟨gb582, 1, none⟩ = some (.int .i64 0) := (blk_cell BK582.out 1).trans rfl
                  have hcz16_2 : w13.cell? ⟨gb582, 2, none⟩ = some (.int .i64 0) := (blk_cell BK582.out 2).trans rfl
                  have hcz16_3 : w13.cell? ⟨gb582, 3, none⟩ = some (.int .i64 0) := (blk_cell BK582.out 3).trans rfl
                  have hfz16_0 := blk_frozen BK582.out 0
                  have hfz16_1 := blk_frozen BK582.out 1
                  have hfz16_2 := blk_frozen BK582.out 2
                  have hfz16_3 := blk_frozen BK582.out 3
                  go_wp2
                  go_meet
                  case rel => exact ⟨_, ((((rd_T89 l0 x12_1).f3) == 0)), (by first | rfl | (simp; done) | (simp [*]; done)), H', ⟨by have := HK1.out; first | omega | exact Nat.le_refl _⟩, ⟨by (with_reducible repeat (first | apply Kd.R_alloc | apply Kd.R_drewN | apply Kd.R_drew)); exact Kd.R_mono (Kd.R_far (p := ⟨gb582, 3, none⟩) (Kd.R_far (p := ⟨gb582, 2, none⟩) (Kd.R_far (p := ⟨gb582, 1, none⟩) (Kd.R_far (p := ⟨gb582, 0, none⟩) (Kd.R_types HO_7.out BK582.out (by decide)) (fun _ hk => hk.2) (.string ((rd_T89 l0 x12_1).f0))) (fun _ hk => hk.2) (.int .i64 ((rd_T89 l0 x12_1).f1))) (fun _ hk => hk.2) (.int .i64 ((rd_T89 l0 x12_1).f2))) (fun _ hk => hk.2) (.int .i64 ((rd_T89 l0 x12_1).f3))) (fun _ hk => trivial)⟩, ⟨by (with_reducible repeat (first | refine blk_drewN ?_ _ | refine blk_drew ?_ | refine blk_alloc ?_ _)); refine blk_put (cs := #[.string ((rd_T89 l0 x12_1).f0), .int .i64 ((rd_T89 l0 x12_1).f1), .int .i64 ((rd_T89 l0 x12_1).f2), .int .i64 0]) ?_ 3 _ rfl; (with_reducible repeat (first | refine blk_drewN ?_ _ | refine blk_drew ?_ | refine blk_alloc ?_ _)); refine blk_put (cs := #[.string ((rd_T89 l0 x12_1).f0), .int .i64 ((rd_T89 l0 x12_1).f1), .int .i64 0, .int .i64 0]) ?_ 2 _ rfl; (with_reducible repeat (first | refine blk_drewN ?_ _ | refine blk_drew ?_ | refine blk_alloc ?_ _)); refine blk_put (cs := #[.string ((rd_T89 l0 x12_1).f0), .int .i64 0, .int .i64 0, .int .i64 0]) ?_ 1 _ rfl; (with_reducible repeat (first | refine blk_drewN ?_ _ | refine blk_drew ?_ | refine blk_alloc ?_ _)); refine blk_put (cs := #[.string (⟨#[]⟩ : ByteArray), .int .i64 0, .int .i64 0, .int .i64 0]) ?_ 0 _ rfl; (with_reducible repeat (first | refine blk_drewN ?_ _ | refine blk_drew ?_ | refine blk_alloc ?_ _)); exact BK582.out⟩, ⟨by repeat (first | (with_reducible first | exact HB.out | apply below_alloc | apply pw_below_drewN | apply below_drew1 | refine below_set ?_ GE582.out) | exact HB.out)⟩⟩
                · rw [if_neg c15] at H
                  have c15b0 : (((rd_T89 l0 x12_1).f0).toList == ([105, 110] : List UInt8)) = false := beq_eq_false_iff_ne.mpr c15
                  have c15b1 : (((rd_T89 l0 x12_1).f0).toList != ([105, 110] : List UInt8)) = true := bne_iff_ne.mpr c15
                  (first | rw [c15b0] | (simp only [i64_w, i32_w]; rw [c15b0]) | skip)
                  have H' := Aside0.mk H
                  clear H
                  have hcz17_0 : w13.cell? ⟨gb582, 0, none⟩ = some (.string (⟨#[]⟩ : ByteArray)) := (blk_cell BK582.out 0).trans rfl
                  have hcz17_1 : w13.cell? ⟨gb582, 1, none⟩ = some (.int .i64 0) := (blk_cell BK582.out 1).trans rfl
                  have hcz17_2 : w13.cell? ⟨gb582, 2, none⟩ = some (.int .i64 0) := (blk_cell BK582.out 2).trans rfl
                  have hcz17_3 : w13.cell? ⟨gb582, 3, none⟩ = some (.int .i64 0) := (blk_cell BK582.out 3).trans rfl
                  have hfz17_0 := blk_frozen BK582.out 0
                  have hfz17_1 := blk_frozen BK582.out 1
                  have hfz17_2 := blk_frozen BK582.out 2
                  have hfz17_3 := blk_frozen BK582.out 3
                  go_wp2
                  go_meet
                  case rel => exact ⟨_, (false), (by first | rfl | (simp; done) | (simp [*]; done)), H', ⟨by have := HK1.out; first | omega | exact Nat.le_refl _⟩, ⟨by (with_reducible repeat (first | apply Kd.R_alloc | apply Kd.R_drewN | apply Kd.R_drew)); exact Kd.R_mono (Kd.R_far (p := ⟨gb582, 3, none⟩) (Kd.R_far (p := ⟨gb582, 2, none⟩) (Kd.R_far (p := ⟨gb582, 1, none⟩) (Kd.R_far (p := ⟨gb582, 0, none⟩) (Kd.R_types HO_7.out BK582.out (by decide)) (fun _ hk => hk.2) (.string ((rd_T89 l0 x12_1).f0))) (fun _ hk => hk.2) (.int .i64 ((rd_T89 l0 x12_1).f1))) (fun _ hk => hk.2) (.int .i64 ((rd_T89 l0 x12_1).f2))) (fun _ hk => hk.2) (.int .i64 ((rd_T89 l0 x12_1).f3))) (fun _ hk => trivial)⟩, ⟨by (with_reducible repeat (first | refine blk_drewN ?_ _ | refine blk_drew ?_ | refine blk_alloc ?_ _)); refine blk_put (cs := #[.string ((rd_T89 l0 x12_1).f0), .int .i64 ((rd_T89 l0 x12_1).f1), .int .i64 ((rd_T89 l0 x12_1).f2), .int .i64 0]) ?_ 3 _ rfl; (with_reducible repeat (first | refine blk_drewN ?_ _ | refine blk_drew ?_ | refine blk_alloc ?_ _)); refine blk_put (cs := #[.string ((rd_T89 l0 x12_1).f0), .int .i64 ((rd_T89 l0 x12_1).f1), .int .i64 0, .int .i64 0]) ?_ 2 _ rfl; (with_reducible repeat (first | refine blk_drewN ?_ _ | refine blk_drew ?_ | refine blk_alloc ?_ _)); refine blk_put (cs := #[.string ((rd_T89 l0 x12_1).f0), .int .i64 0, .int .i64 0, .int .i64 0]) ?_ 1 _ rfl; (with_reducible repeat (first | refine blk_drewN ?_ _ | refine blk_drew ?_ | refine blk_alloc ?_ _)); refine blk_put (cs := #[.string (⟨#[]⟩ : ByteArray), .int .i64 0, .int .i64 0, .int .i64 0]) ?_ 0 _ rfl; (with_reducible repeat (first | refine blk_drewN ?_ _ | refine blk_drew ?_ | refine blk_alloc ?_ _)); exact BK582.out⟩, ⟨by repeat (first | (with_reducible first | exact HB.out | apply below_alloc | apply pw_below_drewN | apply below_drew1 | refine below_set ?_ GE582.out) | exact HB.out)⟩⟩
              case rest =>
                clear HC12
                try clear c1
                try clear p2
                try clear c4
                try clear c4b0
                try clear c5
                try clear c5b0
                try clear p5
                try clear q5
                try clear hx5
                try clear c6
                try clear c6b0
                try clear p6
                try clear c7
                try clear c7b0
                try clear c7b1
                try clear c8
                try clear c10
                try clear c15
                try clear c15b0
                try clear c15b1
                try clear hcz10_0
                try clear hcz10_1
                try clear hcz10_2
                try clear hcz10_3
                try clear hcz14_0
                try clear hcz14_1
                try clear hcz14_2
                try clear hcz14_3
                try clear hcz16_0
                try clear hcz16_1
                try clear hcz16_2
                try clear hcz16_3
                try clear hcz17_0
                try clear hcz17_1
                try clear hcz17_2
                try clear hcz17_3
                try clear hfz10_0
                try clear hfz10_1
                try clear hfz10_2
                try clear hfz10_3
                try clear hfz14_0
                try clear hfz14_1
                try clear hfz14_2
                try clear hfz14_3
                try clear hfz16_0
                try clear hfz16_1
                try clear hfz16_2
                try clear hfz16_3
                try clear hfz17_0
                try clear hfz17_1
                try clear hfz17_2
                try clear hfz17_3
                try clear hx581_0
                try clear hx581_1
                try clear hx581_2
                try clear hx581_3
                try clear p2
                try clear p581
                try clear q581
                obtain ⟨kq, x41_11, rfl, HA, HJ11, HO_7, BK582, HB⟩ := hcut
                cases kq with
                | zero => exact absurd HA.out (by simp [spec_exValues.j1])
                | succ kj11 =>
                  have H := HA.out
                  clear HA
                  simp only [spec_exValues.j1] at H
                  by_cases c18 : x41_11 = true
                  · subst c18
                    have H1 : (if x7_1.length < 17592186044416 then (spec_exValues.l0 kj11 a1 a2 (x7_1 ++ [a1]) l0 (l0.length : Int) (wrap64 (x12_1 + 1))) else (none)) = some r := by rw [if_pos rfl] at H; exact H
                    clear H
                    have H := H1
                    clear H1
                    by_cases c19 : x7_1.length < 17592186044416
                    · rw [if_pos c19] at H
                      have LMc19 := Aside0.mk c19
                      clear c19
                      obtain ⟨y586, hy586⟩ : ∃ y_ : List Int, y_ = (x7_1 ++ [a1]) := ⟨_, rfl⟩
                      replace H : (spec_exValues.l0 kj11 a1 a2 y586 l0 (l0.length : Int) (wrap64 (x12_1 + 1))) = some r := by first | (rw [hy586]; with_reducible exact H) | (have H2_ := (Option.bind_some _ _).symm.trans H; rw [hy586]; with_reducible exact H2_) | (have H2_ := (Option.bind_some _ _).symm.trans H; with_reducible exact H2_) | with_reducible exact H | (rw [hy586]; exact H) | exact H
                      have Ny586 := Aside0.mk hy586
                      clear hy586
                      have H' := Aside0.mk H
                      clear H
                      go_wp2_with (first | ((with_reducible refine gate_builtin (b := .append) (xs := #[.tmp 50, .tmp 52]) rfl ?_); at_builtin; refine Kd.R_append (Kd.int .i64) (w0 := w) w.heap.size rfl (.tmp 50) (.tmp 52) 24 3 (.int .i64 0) 8 rfl Try.underlying24 info3 rfl (by decide) (by omega) u7 x7_1 a1 [.int .i64 a1] (fun _ => True) (fun _ => False) rfl rfl ?aP (fun _ hk => hk.elim) ?aF ?aO ?aB ?aS ?aL ?_; (case aP => exact rfl); (case aB => exact (by repeat (first | (with_reducible first | exact HB.out | apply below_alloc | apply pw_below_drewN | apply below_drew1 | refine below_set ?_ GE582.out) | exact HB.out))); (case aF => exact (fun _ _ => trivial)); (case aO => exact (by (with_reducible repeat (first | apply Kd.R_alloc | apply Kd.R_drewN | apply Kd.R_drew)); exact HO_7.out)); (case aS => exact (below_size (by repeat (first | (with_reducible first | exact HB.out | apply below_alloc | apply pw_below_drewN | apply below_drew1 | refine below_set ?_ GE582.out) | exact HB.out)))); (case aL => have := LMc19.out; omega); intro v587 w20 ho hb hg hat; rw [← Ny586.out] at ho; have n0_ := Aside0.mk (blk_grown (g := gb582) (o := .cells #[.string ((rd_T89 l0 x12_1).f0), .int .i64 ((rd_T89 l0 x12_1).f1), .int .i64 ((rd_T89 l0 x12_1).f2), .int .i64 ((rd_T89 l0 x12_1).f3)] 89 (0, 0)) (by (with_reducible repeat (first | refine blk_drewN ?_ _ | refine blk_drew ?_ | refine blk_alloc ?_ _)); exact BK582.out) hg (Kd.R_ne HO_7.out BK582.out (by decide))); have n1_ := Aside0.mk (hb); have n2_ := Aside0.mk (ho); clear BK582; clear HB; clear HO_7; have BK582 := n0_; have HB := n1_; have HO588 := n2_; clear n0_ n1_ n2_; clear ho hb hg hat))
                      go_roundg kj11
                      case measure => have := HK1.out; have := HJ11.out; omega
                      case rel => exact ⟨(y586), (wrap64 (x12_1 + 1)), (by first | rfl | (simp; done) | (simp [*]; done)), H', ⟨by have := HK1.out; have := HJ11.out; omega⟩, ⟨by (with_reducible repeat (first | apply Kd.R_alloc | apply Kd.R_drewN | apply Kd.R_drew)); exact HO588.out⟩, ⟨by repeat (first | (with_reducible first | exact HB.out | apply below_alloc | apply pw_below_drewN | apply below_drew1 | refine below_set ?_ GE582.out) | exact HB.out)⟩⟩
                    · rw [if_neg c19] at H
                      exact absurd H (by simp)
                  · replace c18 := Bool.eq_false_iff.mpr c18
                    subst c18
                    have H1 : (if ((rd_T89 l0 x12_1).f0).toList = ([105, 110] : List UInt8) then (if x7_1.length < 17592186044416 then (spec_exValues.l0 kj11 a1 a2 (x7_1 ++ [a2]) l0 (l0.length : Int) (wrap64 (x12_1 + 1))) else (none)) else ((spec_exOne.f ((rd_T89 l0 x12_1).f0)).bind fun t592 => (if t592 = true then (if 0 ≤ ((rd_T89 l0 x12_1).f1) then (if ((rd_T89 l0 x12_1).f1) < (x7_1.length : Int) then ((spec_exApply.f ((rd_T89 l0 x12_1).f0) (rd x7_1 ((rd_T89 l0 x12_1).f1)) 0).bind fun t594 => (if x7_1.length < 17592186044416 then (spec_exValues.l0 kj11 a1 a2 (x7_1 ++ [t594]) l0 (l0.length : Int) (wrap64 (x12_1 + 1))) else (none))) else (none)) else (none)) else (if 0 ≤ ((rd_T89 l0 x12_1).f1) then (if ((rd_T89 l0 x12_1).f1) < (x7_1.length : Int) then (if 0 ≤ ((rd_T89 l0 x12_1).f2) then (if ((rd_T89 l0 x12_1).f2) < (x7_1.length : Int) then ((spec_exApply.f ((rd_T89 l0 x12_1).f0) (rd x7_1 ((rd_T89 l0 x12_1).f1)) (rd x7_1 ((rd_T89 l0 x12_1).f2))).bind fun t600 => (if x7_1.length < 17592186044416 then (spec_exValues.l0 kj11 a1 a2 (x7_1 ++ [t600]) l0 (l0.length : Int) (wrap64 (x12_1 + 1))) else (none))) else (none)) else (none)) else (none)) else (none))))) = some r := by rw [if_neg (show ¬ (false = true) by decide)] at H; exact H
                    clear H
                    have H := H1
                    clear H1
                    by_cases c21 : ((rd_T89 l0 x12_1).f0).toList = ([105, 110] : List UInt8)
                    · rw [if_pos c21] at H
                      have c21b0 : (((rd_T89 l0 x12_1).f0).toList == ([105, 110] : List UInt8)) = true := beq_iff_eq.mpr c21
                      have c21b1 : (((rd_T89 l0 x12_1).f0).toList != ([105, 110] : List UInt8)) = false := bne_eq_false_iff_eq.mpr c21
                      clear c21
                      by_cases c22 : x7_1.length < 17592186044416
                      · rw [if_pos c22] at H
                        have LMc22 := Aside0.mk c22
                        clear c22
                        obtain ⟨y589, hy589⟩ : ∃ y_ : List Int, y_ = (x7_1 ++ [a2]) := ⟨_, rfl⟩
                        replace H : (spec_exValues.l0 kj11 a1 a2 y589 l0 (l0.length : Int) (wrap64 (x12_1 + 1))) = some r := by first | (rw [hy589]; with_reducible exact H) | (have H2_ := (Option.bind_some _ _).symm.trans H; rw [hy589]; with_reducible exact H2_) | (have H2_ := (Option.bind_some _ _).symm.trans H; with_reducible exact H2_) | with_reducible exact H | (rw [hy589]; exact H) | exact H
                        have Ny589 := Aside0.mk hy589
                        clear hy589
                        have H' := Aside0.mk H
                        clear H
                        have hcz23_0 : wc.cell? ⟨gb582, 0, none⟩ = some (.string ((rd_T89 l0 x12_1).f0)) := (blk_cell BK582.out 0).trans rfl
                        have hcz23_1 : wc.cell? ⟨gb582, 1, none⟩ = some (.int .i64 ((rd_T89 l0 x12_1).f1)) := (blk_cell BK582.out 1).trans rfl
                        have hcz23_2 : wc.cell? ⟨gb582, 2, none⟩ = some (.int .i64 ((rd_T89 l0 x12_1).f2)) := (blk_cell BK582.out 2).trans rfl
                        have hcz23_3 : wc.cell? ⟨gb582, 3, none⟩ = some (.int .i64 ((rd_T89 l0 x12_1).f3)) := (blk_cell BK582.out 3).trans rfl
                        have hfz23_0 := blk_frozen BK582.out 0
                        have hfz23_1 := blk_frozen BK582.out 1
                        have hfz23_2 := blk_frozen BK582.out 2
                        have hfz23_3 := blk_frozen BK582.out 3
                        go_wp2_with (first | ((with_reducible refine gate_builtin (b := .append) (xs := #[.tmp 58, .tmp 60]) rfl ?_); at_builtin; refine Kd.R_append (Kd.int .i64) (w0 := w) w.heap.size rfl (.tmp 58) (.tmp 60) 24 3 (.int .i64 0) 8 rfl Try.underlying24 info3 rfl (by decide) (by omega) u7 x7_1 a2 [.int .i64 a2] (fun _ => True) (fun _ => False) rfl rfl ?aP (fun _ hk => hk.elim) ?aF ?aO ?aB ?aS ?aL ?_; (case aP => exact rfl); (case aB => exact (by repeat (first | (with_reducible first | exact HB.out | apply below_alloc | apply pw_below_drewN | apply below_drew1 | refine below_set ?_ GE582.out) | exact HB.out))); (case aF => exact (fun _ _ => trivial)); (case aO => exact (by (with_reducible repeat (first | apply Kd.R_alloc | apply Kd.R_drewN | apply Kd.R_drew)); exact HO_7.out)); (case aS => exact (below_size (by repeat (first | (with_reducible first | exact HB.out | apply below_alloc | apply pw_below_drewN | apply below_drew1 | refine below_set ?_ GE582.out) | exact HB.out)))); (case aL => have := LMc22.out; omega); intro v590 w24 ho hb hg hat; rw [← Ny589.out] at ho; have n0_ := Aside0.mk (blk_grown (g := gb582) (o := .cells #[.string ((rd_T89 l0 x12_1).f0), .int .i64 ((rd_T89 l0 x12_1).f1), .int .i64 ((rd_T89 l0 x12_1).f2), .int .i64 ((rd_T89 l0 x12_1).f3)] 89 (0, 0)) (by (with_reducible repeat (first | refine blk_drewN ?_ _ | refine blk_drew ?_ | refine blk_alloc ?_ _)); exact BK582.out) hg (Kd.R_ne HO_7.out BK582.out (by decide))); have n1_ := Aside0.mk (hb); have n2_ := Aside0.mk (ho); clear BK582; clear HB; clear HO_7; have BK582 := n0_; have HB := n1_; have HO591 := n2_; clear n0_ n1_ n2_; clear ho hb hg hat))
                        go_roundg kj11
                        case measure => have := HK1.out; have := HJ11.out; omega
                        case rel => exact ⟨(y589), (wrap64 (x12_1 + 1)), (by first | rfl | (simp; done) | (simp [*]; done)), H', ⟨by have := HK1.out; have := HJ11.out; omega⟩, ⟨by (with_reducible repeat (first | apply Kd.R_alloc | apply Kd.R_drewN | apply Kd.R_drew)); exact HO591.out⟩, ⟨by repeat (first | (with_reducible first | exact HB.out | apply below_alloc | apply pw_below_drewN | apply below_drew1 | refine below_set ?_ GE582.out) | exact HB.out)⟩⟩
                      · rw [if_neg c22] at H
                        exact absurd H (by simp)
                    · rw [if_neg c21] at H
                      have c21b0 : (((rd_T89 l0 x12_1).f0).toList == ([105, 110] : List UInt8)) = false := beq_eq_false_iff_ne.mpr c21
                      have c21b1 : (((rd_T89 l0 x12_1).f0).toList != ([105, 110] : List UInt8)) = true := bne_iff_ne.mpr c21
                      replace H := Option.bind_eq_some_iff.mp H
                      obtain ⟨t592, A250, H⟩ := H
                      replace H : (if t592 = true then (if 0 ≤ ((rd_T89 l0 x12_1).f1) then (if ((rd_T89 l0 x12_1).f1) < (x7_1.length : Int) then ((spec_exApply.f ((rd_T89 l0 x12_1).f0) (rd x7_1 ((rd_T89 l0 x12_1).f1)) 0).bind fun t594 => (if x7_1.length < 17592186044416 then (spec_exValues.l0 kj11 a1 a2 (x7_1 ++ [t594]) l0 (l0.length : Int) (wrap64 (x12_1 + 1))) else (none))) else (none)) else (none)) else (if 0 ≤ ((rd_T89 l0 x12_1).f1) then (if ((rd_T89 l0 x12_1).f1) < (x7_1.length : Int) then (if 0 ≤ ((rd_T89 l0 x12_1).f2) then (if ((rd_T89 l0 x12_1).f2) < (x7_1.length : Int) then ((spec_exApply.f ((rd_T89 l0 x12_1).f0) (rd x7_1 ((rd_T89 l0 x12_1).f1)) (rd x7_1 ((rd_T89 l0 x12_1).f2))).bind fun t600 => (if x7_1.length < 17592186044416 then (spec_exValues.l0 kj11 a1 a2 (x7_1 ++ [t600]) l0 (l0.length : Int) (wrap64 (x12_1 + 1))) else (none))) else (none)) else (none)) else (none)) else (none))) = some r := H
                      have A25 := Aside0.mk A250
                      clear A250
                      by_cases c26 : t592 = true
                      · subst c26
                        have H1 : (if 0 ≤ ((rd_T89 l0 x12_1).f1) then (if ((rd_T89 l0 x12_1).f1) < (x7_1.length : Int) then ((spec_exApply.f ((rd_T89 l0 x12_1).f0) (rd x7_1 ((rd_T89 l0 x12_1).f1)) 0).bind fun t594 => (if x7_1.length < 17592186044416 then (spec_exValues.l0 kj11 a1 a2 (x7_1 ++ [t594]) l0 (l0.length : Int) (wrap64 (x12_1 + 1))) else (none))) else (none)) else (none)) = some r := by rw [if_pos rfl] at H; exact H
                        clear H
                        have H := H1
                        clear H1
                        by_cases c27 : 0 ≤ ((rd_T89 l0 x12_1).f1)
                        · rw [if_pos c27] at H
                          have c27b0 : decide (0 ≤ ((rd_T89 l0 x12_1).f1)) = true := decide_eq_true c27
                          clear c27
                          by_cases c28 : ((rd_T89 l0 x12_1).f1) < (x7_1.length : Int)
                          · rw [if_pos c28] at H
                            have c28b0 : decide (((rd_T89 l0 x12_1).f1) < (x7_1.length : Int)) = true := decide_eq_true c28
                            clear c28
                            replace H := Option.bind_eq_some_iff.mp H
                            obtain ⟨t594, A290, H⟩ := H
                            replace H : (if x7_1.length < 17592186044416 then (spec_exValues.l0 kj11 a1 a2 (x7_1 ++ [t594]) l0 (l0.length : Int) (wrap64 (x12_1 + 1))) else (none)) = some r := H
                            have A29 := Aside0.mk A290
                            clear A290
                            by_cases c30 : x7_1.length < 17592186044416
                            · rw [if_pos c30] at H
                              have LMc30 := Aside0.mk c30
                              clear c30
                              obtain ⟨y595, hy595⟩ : ∃ y_ : List Int, y_ = (x7_1 ++ [t594]) := ⟨_, rfl⟩
                              replace H : (spec_exValues.l0 kj11 a1 a2 y595 l0 (l0.length : Int) (wrap64 (x12_1 + 1))) = some r := by first | (rw [hy595]; with_reducible exact H) | (have H2_ := (Option.bind_some _ _).symm.trans H; rw [hy595]; with_reducible exact H2_) | (have H2_ := (Option.bind_some _ _).symm.trans H; with_reducible exact H2_) | with_reducible exact H | (rw [hy595]; exact H) | exact H
                              have Ny595 := Aside0.mk hy595
                              clear hy595
                              have H' := Aside0.mk H
                              clear H
                              have hcz31_0 : wc.cell? ⟨gb582, 0, none⟩ = some (.string ((rd_T89 l0 x12_1).f0)) := (blk_cell BK582.out 0).trans rfl
                              have hcz31_1 : wc.cell? ⟨gb582, 1, none⟩ = some (.int .i64 ((rd_T89 l0 x12_1).f1)) := (blk_cell BK582.out 1).trans rfl
                              have hcz31_2 : wc.cell? ⟨gb582, 2, none⟩ = some (.int .i64 ((rd_T89 l0 x12_1).f2)) := (blk_cell BK582.out 2).trans rfl
                              have hcz31_3 : wc.cell? ⟨gb582, 3, none⟩ = some (.int .i64 ((rd_T89 l0 x12_1).f3)) := (blk_cell BK582.out 3).trans rfl
                              have hfz31_0 := blk_frozen BK582.out 0
                              have hfz31_1 := blk_frozen BK582.out 1
                              have hfz31_2 := blk_frozen BK582.out 2
                              have hfz31_3 := blk_frozen BK582.out 3
                              try go_wp2_with (first | ((with_reducible refine gate_callee (f := 149) rfl ?_); refine goesL_ (some 65) rfl rfl Try.func149 (by kernel_rfl) rfl #[.string ((rd_T89 l0 x12_1).f0)] rfl (by (try simp only [List.map_toArray, List.map_cons, List.map_nil]); first | done | rfl | (simp only [List.length_drop, List.length_take]; rfl)) ?_; (with_reducible refine (spec_exOne.calls ((rd_T89 l0 x12_1).f0) true _ A25.out).mono ?_); rintro e w' ⟨rfl, ⟨nd, rfl⟩⟩; refine ⟨_, rfl, ?_⟩))
                              (try (rw [drewN_self wc]; generalize hq_ : World.drewN wc _ = wc; have n0_ : Aside0 (Kd.R (Kd.int .i64) 3 wc w.heap.size (fun _ => True) u7 x7_1) := ⟨by rw [← hq_]; exact (by (with_reducible repeat (first | apply Kd.R_alloc | apply Kd.R_drewN | apply Kd.R_drew)); exact HO_7.out)⟩; have n1_ : Aside0 (wc.heap[gb582]? = some (.cells #[.string ((rd_T89 l0 x12_1).f0), .int .i64 ((rd_T89 l0 x12_1).f1), .int .i64 ((rd_T89 l0 x12_1).f2), .int .i64 ((rd_T89 l0 x12_1).f3)] 89 (0, 0))) := ⟨by rw [← hq_]; exact (by (with_reducible repeat (first | refine blk_drewN ?_ _ | refine blk_drew ?_ | refine blk_alloc ?_ _)); exact BK582.out)⟩; have n2_ : Aside0 (Below w.heap.size w wc) := ⟨by rw [← hq_]; exact (by repeat (first | (with_reducible first | exact HB.out | apply below_alloc | apply pw_below_drewN | apply below_drew1 | refine below_set ?_ GE582.out) | exact HB.out))⟩; clear HO_7 BK582 HB hq_; have HO_7 := n0_; have BK582 := n1_; have HB := n2_; clear n0_ n1_ n2_))
                              have n0_ := Aside0.mk (Kd.R_drew HO_7.out)
                              have n1_ := Aside0.mk (blk_drew BK582.out)
                              have n2_ := Aside0.mk (below_drew1 HB.out)
                              clear HO_7
                              clear BK582
                              clear HB
                              have HO_7 := n0_
                              have BK582 := n1_
                              have HB := n2_
                              clear n0_ n1_ n2_
                              obtain ⟨Ao33, co33, eo33⟩ := Kd.R_slice HO_7.out
                              (first | subst eo33 | (injection eo33 with f1_ f2_ f3_; have f4_ := f1_.symm; have f5_ := f3_.symm; clear f1_ f2_ f3_; subst f4_; subst f5_))
                              have p593 : 0 ≤ (((rd_T89 l0 x12_1).f1) : Int) := of_decide_eq_true (by first | (with_reducible assumption) | assumption)
                              have q593 : ((rd_T89 l0 x12_1).f1) < (x7_1.length : Int) := of_decide_eq_true (by first | (with_reducible assumption) | assumption)
                              obtain ⟨ad593, e593, hx593_0⟩ := Kd.at_int (Kd.R_reads' HO_7.out).2.2 ((rd_T89 l0 x12_1).f1) p593 q593
                              cases e593
                              replace p593 := eq_true p593
                              replace q593 := eq_true q593
                              refine start_ (n := 12) (S := fun w' => w'.cell? ⟨gb582, 0, none⟩ = some (.string ((rd_T89 l0 x12_1).f0)) ∧ w'.cell? ⟨gb582, 1, none⟩ = some (.int .i64 ((rd_T89 l0 x12_1).f1)) ∧ w'.cell? ⟨gb582, 2, none⟩ = some (.int .i64 ((rd_T89 l0 x12_1).f2)) ∧ w'.cell? ⟨gb582, 3, none⟩ = some (.int .i64 ((rd_T89 l0 x12_1).f3)) ∧ w'.cell? (ad593.add (((rd_T89 l0 x12_1).f1)).toNat) = some (.int .i64 (rd x7_1 ((rd_T89 l0 x12_1).f1)))) (ds := [9, 10]) #[false, false, false, false, false, false, false, false, false, false, false, false] (by kernel_rfl) rfl rfl ⟨(blk_cell BK582.out 0).trans rfl, (blk_cell BK582.out 1).trans rfl, (blk_cell BK582.out 2).trans rfl, (blk_cell BK582.out 3).trans rfl, hx593_0⟩ (fun hHeld => ?_); refine with_tabW spec_exValues.tab13 spec_exValues.bits13 (fun HT_ HW_ => ?_)
                              generalize wc.drew = w32 at HO_7 BK582 HB hx593_0 hHeld ⊢
                              refine pure_ (i := 0) (N := some 66) (v := ?_) (a' := ?_) #[true, false, false, false, false, false, false, false, false, false, false, false] rfl rfl (any_of HT_.out (by kernel_rfl)) (fun _ _ _ h => h) (Or.inl ⟨by rfl, ?_⟩) ?_ ?_
                              rotate_left
                              · intro w'
                                go_simp
                                with_reducible rfl
                              rotate_left
                              · simp only [Act.put, List.setIfInBounds_toArray, List.set_cons_zero, List.set_cons_succ, i64_w, i32_w]
                                rfl
                              refine pure_ (i := 1) (N := some 67) (v := ?_) (a' := ?_) #[true, true, false, false, false, false, false, false, false, false, false, false] rfl rfl (any_of HT_.out (by kernel_rfl)) (fun _ _ _ h => h) (Or.inl ⟨by rfl, ?_⟩) ?_ ?_
                              rotate_left
                              · intro w'
                                go_simp
                                with_reducible rfl
                              rotate_left
                              · simp only [Act.put, List.setIfInBounds_toArray, List.set_cons_zero, List.set_cons_succ, i64_w, i32_w]
                                rfl
                              refine pure_ (i := 3) (N := some 69) (v := ?_) (a' := ?_) #[true, true, false, true, false, false, false, false, false, false, false, false] rfl rfl (any_of HT_.out (by kernel_rfl)) (fun _ _ _ h => h) (Or.inl ⟨by rfl, ?_⟩) ?_ ?_
                              rotate_left
                              · intro w'
                                go_simp
                                with_reducible rfl
                              rotate_left
                              · simp only [Act.put, List.setIfInBounds_toArray, List.set_cons_zero, List.set_cons_succ, i64_w, i32_w]
                                rfl
                              refine pure_ (i := 4) (N := some 70) (v := ?_) (a' := ?_) #[true, true, false, true, true, false, false, false, false, false, false, false] rfl rfl (any_of HT_.out (by kernel_rfl)) (fun _ _ _ h => h) (Or.inl ⟨by rfl, ?_⟩) ?_ ?_
                              rotate_left
                              · intro w'
                                go_simp
                                with_reducible rfl
                              rotate_left
                              · simp only [Act.put, List.setIfInBounds_toArray, List.set_cons_zero, List.set_cons_succ, i64_w, i32_w]
                                rfl
                              refine take_ (i := 2) (N := some 68) (v := ?_) (a' := ?_) #[true, true, true, true, true, false, false, false, false, false, false, false] rfl rfl (take_ofW HT_.out HW_.out (by kernel_rfl)) (fun _ _ _ h => h) (Or.inl ⟨by rfl, ?_⟩) hHeld ?_ ?_
                              rotate_left
                              · rintro w' ⟨s0, s1, s2, s3, s4⟩
                                go_simp
                                with_reducible rfl
                              rotate_left
                              · simp only [Act.put, List.setIfInBounds_toArray, List.set_cons_zero, List.set_cons_succ, i64_w, i32_w]
                                rfl
                              refine take_ (i := 5) (N := some 71) (v := ?_) (a' := ?_) #[true, true, true, true, true, true, false, false, false, false, false, false] rfl rfl (take_ofW HT_.out HW_.out (by kernel_rfl)) (fun _ _ _ h => h) (Or.inl ⟨by rfl, ?_⟩) hHeld ?_ ?_
                              rotate_left
                              · rintro w' ⟨s0, s1, s2, s3, s4⟩
                                go_simp
                                with_reducible rfl
                              rotate_left
                              · simp only [Act.put, List.setIfInBounds_toArray, List.set_cons_zero, List.set_cons_succ, i64_w, i32_w]
                                rfl
                              refine pure_ (i := 6) (N := some 72) (v := ?_) (a' := ?_) #[true, true, true, true, true, true, true, false, false, false, false, false] rfl rfl (any_of HT_.out (by kernel_rfl)) (fun _ _ _ h => h) (Or.inl ⟨by rfl, ?_⟩) ?_ ?_
                              rotate_left
                              · intro w'
                                go_simp
                                with_reducible rfl
                              rotate_left
                              · simp only [Act.put, List.setIfInBounds_toArray, List.set_cons_zero, List.set_cons_succ, i64_w, i32_w]
                                rfl
                              refine take_ (i := 7) (N := some 73) (v := ?_) (a' := ?_) #[true, true, true, true, true, true, true, true, false, false, false, false] rfl rfl (take_ofW HT_.out HW_.out (by kernel_rfl)) (fun _ _ _ h => h) (Or.inl ⟨by rfl, ?_⟩) hHeld ?_ ?_
                              rotate_left
                              · rintro w' ⟨s0, s1, s2, s3, s4⟩
                                go_simp
                                with_reducible rfl
                              rotate_left
                              · simp only [Act.put, List.setIfInBounds_toArray, List.set_cons_zero, List.set_cons_succ, i64_w, i32_w]
                                rfl
                              refine one_ (i := 8) (N := some 74) #[true, true, true, true, true, true, true, true, true, false, false, false] rfl rfl (one_of HT_.out (by kernel_rfl)) (by decide) (fun K hK => ?_)
                              refine goes_ Try.func150 (by kernel_rfl) rfl #[.string ((rd_T89 l0 x12_1).f0), .int .i64 (rd x7_1 ((rd_T89 l0 x12_1).f1)), .int .i64 0] (by rfl) rfl rfl (by (try simp only [List.map_toArray, List.map_cons, List.map_nil]); first | done | rfl | (simp only [List.length_drop, List.length_take]; rfl)) ?_
                              with_reducible refine (spec_exApply.calls ((rd_T89 l0 x12_1).f0) (rd x7_1 ((rd_T89 l0 x12_1).f1)) 0 t594 _ A29.out).mono ?_
                              rintro e w' ⟨rfl, ⟨nd, rfl⟩⟩
                              refine ⟨_, rfl, ?_⟩
                              refine hK.out _ _ ⟨(blk_cell BK582.out 0).trans rfl, (blk_cell BK582.out 1).trans rfl, (blk_cell BK582.out 2).trans rfl, (blk_cell BK582.out 3).trans rfl, hHeld.2.2.2.2⟩ (fun hHeld => ?_)
                              clear hK K
                              refine norm_ (a' := ?_) ?_ ?_
                              rotate_left
                              · show Act.put _ (some 74) _ = _
                                simp only [Act.put, List.setIfInBounds_toArray, List.set_cons_zero, List.set_cons_succ, i64_w, i32_w]
                                rfl
                              refine last_ (i := 9) (N := some 75) #[true, true, true, true, true, true, true, true, true, true, false, false] rfl rfl (one_of HT_.out (by kernel_rfl)) (by decide) (fun K hK => ?_)
                              refine value_ (w1 := ?_) (v := ?_) (by rfl) rfl ?_ ?_
                              rotate_left 2
                              · go_simp
                                constructor
                                · rfl
                                · rfl
                              refine hK.out _ _ ?_
                              clear hK K
                              refine norm_ (a' := ?_) ?_ ?_
                              rotate_left
                              · show Act.put _ (some 75) _ = _
                                simp only [Act.put, List.setIfInBounds_toArray, List.set_cons_zero, List.set_cons_succ, i64_w, i32_w]
                                rfl
                              refine last_ (i := 10) (N := some 76) #[true, true, true, true, true, true, true, true, true, true, true, false] rfl rfl (one_of HT_.out (by kernel_rfl)) (by decide) (fun K hK => ?_)
                              refine Kd.R_append_step (Kd.int .i64) (w0 := w) w.heap.size (by rfl) (.tmp 66) (.tmp 75) 24 3 (.int .i64 0) 8 rfl Try.underlying24 info3 rfl (by decide) (by omega) (.slice (some ad593) x7_1.length co33) x7_1 t594 [.int .i64 t594] (fun _ => True) (fun _ => False) rfl rfl ?aP (fun _ hk => hk.elim) ?aF ?aO ?aB ?aS ?aL ?_
                              (case aP => exact rfl)
                              (case aB => exact (by repeat (first | (with_reducible first | exact HB.out | apply below_alloc | apply pw_below_drewN | apply below_drew1 | refine below_set ?_ GE582.out) | exact HB.out)))
                              (case aF => exact (fun _ _ => trivial))
                              (case aO => exact (by (with_reducible repeat (first | apply Kd.R_alloc | apply Kd.R_drewN | apply Kd.R_drew)); exact HO_7.out))
                              (case aS => exact (below_size (by repeat (first | (with_reducible first | exact HB.out | apply below_alloc | apply pw_below_drewN | apply below_drew1 | refine below_set ?_ GE582.out) | exact HB.out))))
                              (case aL => have := LMc30.out; omega)
                              intro v596 w34 ho hb hg hat
                              rw [← Ny595.out] at ho
                              have n0_ := Aside0.mk (blk_grown (g := gb582) (o := .cells #[.string ((rd_T89 l0 x12_1).f0), .int .i64 ((rd_T89 l0 x12_1).f1), .int .i64 ((rd_T89 l0 x12_1).f2), .int .i64 ((rd_T89 l0 x12_1).f3)] 89 (0, 0)) (by (with_reducible repeat (first | refine blk_drewN ?_ _ | refine blk_drew ?_ | refine blk_alloc ?_ _)); exact BK582.out) hg (Kd.R_ne HO_7.out BK582.out (by decide)))
                              have n1_ := Aside0.mk (hb)
                              have n2_ := Aside0.mk (ho)
                              clear BK582
                              clear HB
                              clear HO_7
                              have BK582 := n0_
                              have HB := n1_
                              have HO597 := n2_
                              clear n0_ n1_ n2_
                              clear ho hb hg hat
                              refine hK.out _ _ ?_
                              clear hK K
                              refine norm_ (a' := ?_) ?_ ?_
                              rotate_left
                              · show Act.put _ (some 76) _ = _
                                simp only [Act.put, List.setIfInBounds_toArray, List.set_cons_zero, List.set_cons_succ, i64_w, i32_w]
                                rfl
                              refine pure_ (i := 11) (N := some 7) (v := ?_) (a' := ?_) #[true, true, true, true, true, true, true, true, true, true, true, true] rfl rfl (any_of HT_.out (by kernel_rfl)) (fun _ _ _ h => h) (Or.inl ⟨by rfl, ?_⟩) ?_ ?_
                              rotate_left
                              · intro w'
                                go_simp
                                with_reducible rfl
                              rotate_left
                              · simp only [Act.put, List.setIfInBounds_toArray, List.set_cons_zero, List.set_cons_succ, i64_w, i32_w]
                                rfl
                              refine done_ (done_of HT_.out (by kernel_rfl)) ?_
                              try go_wp2
                              go_roundg kj11
                              case measure => have := HK1.out; have := HJ11.out; omega
                              case rel => exact ⟨(y595), (wrap64 (x12_1 + 1)), (by first | rfl | (simp; done) | (simp [*]; done)), H', ⟨by have := HK1.out; have := HJ11.out; omega⟩, ⟨by (with_reducible repeat (first | apply Kd.R_alloc | apply Kd.R_drewN | apply Kd.R_drew)); exact HO597.out⟩, ⟨by repeat (first | (with_reducible first | exact HB.out | apply below_alloc | apply pw_below_drewN | apply below_drew1 | refine below_set ?_ GE582.out) | exact HB.out)⟩⟩
                            · rw [if_neg c30] at H
                              exact absurd H (by simp)
                          · rw [if_neg c28] at H
                            exact absurd H (by simp)
                        · rw [if_neg c27] at H
                          exact absurd H (by simp)
                      · replace c26 := Bool.eq_false_iff.mpr c26
                        subst c26
                        have H1 : (if 0 ≤ ((rd_T89 l0 x12_1).f1) then (if ((rd_T89 l0 x12_1).f1) < (x7_1.length : Int) then (if 0 ≤ ((rd_T89 l0 x12_1).f2) then (if ((rd_T89 l0 x12_1).f2) < (x7_1.length : Int) then ((spec_exApply.f ((rd_T89 l0 x12_1).f0) (rd x7_1 ((rd_T89 l0 x12_1).f1)) (rd x7_1 ((rd_T89 l0 x12_1).f2))).bind fun t600 => (if x7_1.length < 17592186044416 then (spec_exValues.l0 kj11 a1 a2 (x7_1 ++ [t600]) l0 (l0.length : Int) (wrap64 (x12_1 + 1))) else (none))) else (none)) else (none)) else (none)) else (none)) = some r := by rw [if_neg (show ¬ (false = true) by decide)] at H; exact H
                        clear H
                        have H := H1
                        clear H1
                        by_cases c35 : 0 ≤ ((rd_T89 l0 x12_1).f1)
                        · rw [if_pos c35] at H
                          have c35b0 : decide (0 ≤ ((rd_T89 l0 x12_1).f1)) = true := decide_eq_true c35
                          clear c35
                          by_cases c36 : ((rd_T89 l0 x12_1).f1) < (x7_1.length : Int)
                          · rw [if_pos c36] at H
                            have c36b0 : decide (((rd_T89 l0 x12_1).f1) < (x7_1.length : Int)) = true := decide_eq_true c36
                            clear c36
                            by_cases c37 : 0 ≤ ((rd_T89 l0 x12_1).f2)
                            · rw [if_pos c37] at H
                              have c37b0 : decide (0 ≤ ((rd_T89 l0 x12_1).f2)) = true := decide_eq_true c37
                              clear c37
                              by_cases c38 : ((rd_T89 l0 x12_1).f2) < (x7_1.length : Int)
                              · rw [if_pos c38] at H
                                have c38b0 : decide (((rd_T89 l0 x12_1).f2) < (x7_1.length : Int)) = true := decide_eq_true c38
                                clear c38
                                replace H := Option.bind_eq_some_iff.mp H
                                obtain ⟨t600, A390, H⟩ := H
                                replace H : (if x7_1.length < 17592186044416 then (spec_exValues.l0 kj11 a1 a2 (x7_1 ++ [t600]) l0 (l0.length : Int) (wrap64 (x12_1 + 1))) else (none)) = some r := H
                                have A39 := Aside0.mk A390
                                clear A390
                                by_cases c40 : x7_1.length < 17592186044416
                                · rw [if_pos c40] at H
                                  have LMc40 := Aside0.mk c40
                                  clear c40
                                  obtain ⟨y601, hy601⟩ : ∃ y_ : List Int, y_ = (x7_1 ++ [t600]) := ⟨_, rfl⟩
                                  replace H : (spec_exValues.l0 kj11 a1 a2 y601 l0 (l0.length : Int) (wrap64 (x12_1 + 1))) = some r := by first | (rw [hy601]; with_reducible exact H) | (have H2_ := (Option.bind_some _ _).symm.trans H; rw [hy601]; with_reducible exact H2_) | (have H2_ := (Option.bind_some _ _).symm.trans H; with_reducible exact H2_) | with_reducible exact H | (rw [hy601]; exact H) | exact H
                                  have Ny601 := Aside0.mk hy601
                                  clear hy601
                                  have H' := Aside0.mk H
                                  clear H
                                  have hcz41_0 : wc.cell? ⟨gb582, 0, none⟩ = some (.string ((rd_T89 l0 x12_1).f0)) := (blk_cell BK582.out 0).trans rfl
                                  have hcz41_1 : wc.cell? ⟨gb582, 1, none⟩ = some (.int .i64 ((rd_T89 l0 x12_1).f1)) := (blk_cell BK582.out 1).trans rfl
                                  have hcz41_2 : wc.cell? ⟨gb582, 2, none⟩ = some (.int .i64 ((rd_T89 l0 x12_1).f2)) := (blk_cell BK582.out 2).trans rfl
                                  have hcz41_3 : wc.cell? ⟨gb582, 3, none⟩ = some (.int .i64 ((rd_T89 l0 x12_1).f3)) := (blk_cell BK582.out 3).trans rfl
                                  have hfz41_0 := blk_frozen BK582.out 0
                                  have hfz41_1 := blk_frozen BK582.out 1
                                  have hfz41_2 := blk_frozen BK582.out 2
                                  have hfz41_3 := blk_frozen BK582.out 3
                                  try go_wp2_with (first | ((with_reducible refine gate_callee (f := 149) rfl ?_); refine goesL_ (some 65) rfl rfl Try.func149 (by kernel_rfl) rfl #[.string ((rd_T89 l0 x12_1).f0)] rfl (by (try simp only [List.map_toArray, List.map_cons, List.map_nil]); first | done | rfl | (simp only [List.length_drop, List.length_take]; rfl)) ?_; (with_reducible refine (spec_exOne.calls ((rd_T89 l0 x12_1).f0) false _ A25.out).mono ?_); rintro e w' ⟨rfl, ⟨nd, rfl⟩⟩; refine ⟨_, rfl, ?_⟩))
                                  (try (rw [drewN_self wc]; generalize hq_ : World.drewN wc _ = wc; have n0_ : Aside0 (Kd.R (Kd.int .i64) 3 wc w.heap.size (fun _ => True) u7 x7_1) := ⟨by rw [← hq_]; exact (by (with_reducible repeat (first | apply Kd.R_alloc | apply Kd.R_drewN | apply Kd.R_drew)); exact HO_7.out)⟩; have n1_ : Aside0 (wc.heap[gb582]? = some (.cells #[.string ((rd_T89 l0 x12_1).f0), .int .i64 ((rd_T89 l0 x12_1).f1), .int .i64 ((rd_T89 l0 x12_1).f2), .int .i64 ((rd_T89 l0 x12_1).f3)] 89 (0, 0))) := ⟨by rw [← hq_]; exact (by (with_reducible repeat (first | refine blk_drewN ?_ _ | refine blk_drew ?_ | refine blk_alloc ?_ _)); exact BK582.out)⟩; have n2_ : Aside0 (Below w.heap.size w wc) := ⟨by rw [← hq_]; exact (by repeat (first | (with_reducible first | exact HB.out | apply below_alloc | apply pw_below_drewN | apply below_drew1 | refine below_set ?_ GE582.out) | exact HB.out))⟩; clear HO_7 BK582 HB hq_; have HO_7 := n0_; have BK582 := n1_; have HB := n2_; clear n0_ n1_ n2_))
                                  have n0_ := Aside0.mk (Kd.R_drew HO_7.out)
                                  have n1_ := Aside0.mk (blk_drew BK582.out)
                                  have n2_ := Aside0.mk (below_drew1 HB.out)
                                  clear HO_7
                                  clear BK582
                                  clear HB
                                  have HO_7 := n0_
                                  have BK582 := n1_
                                  have HB := n2_
                                  clear n0_ n1_ n2_
                                  obtain ⟨Ao43, co43, eo43⟩ := Kd.R_slice HO_7.out
                                  (first | subst eo43 | (injection eo43 with f1_ f2_ f3_; have f4_ := f1_.symm; have f5_ := f3_.symm; clear f1_ f2_ f3_; subst f4_; subst f5_))
                                  have p598 : 0 ≤ (((rd_T89 l0 x12_1).f1) : Int) := of_decide_eq_true (by first | (with_reducible assumption) | assumption)
                                  have q598 : ((rd_T89 l0 x12_1).f1) < (x7_1.length : Int) := of_decide_eq_true (by first | (with_reducible assumption) | assumption)
                                  obtain ⟨ad598, e598, hx598_0⟩ := Kd.at_int (Kd.R_reads' HO_7.out).2.2 ((rd_T89 l0 x12_1).f1) p598 q598
                                  cases e598
                                  replace p598 := eq_true p598
                                  replace q598 := eq_true q598
                                  have p599 : 0 ≤ (((rd_T89 l0 x12_1).f2) : Int) := of_decide_eq_true (by first | (with_reducible assumption) | assumption)
                                  have q599 : ((rd_T89 l0 x12_1).f2) < (x7_1.length : Int) := of_decide_eq_true (by first | (with_reducible assumption) | assumption)
                                  obtain ⟨ad599, e599, hx599_0⟩ := Kd.at_int (Kd.R_reads' HO_7.out).2.2 ((rd_T89 l0 x12_1).f2) p599 q599
                                  obtain rfl : ad598 = ad599 := (by injection e599)
                                  replace p599 := eq_true p599
                                  replace q599 := eq_true q599
                                  refine start_ (n := 17) (S := fun w' => w'.cell? ⟨gb582, 0, none⟩ = some (.string ((rd_T89 l0 x12_1).f0)) ∧ w'.cell? ⟨gb582, 1, none⟩ = some (.int .i64 ((rd_T89 l0 x12_1).f1)) ∧ w'.cell? ⟨gb582, 2, none⟩ = some (.int .i64 ((rd_T89 l0 x12_1).f2)) ∧ w'.cell? ⟨gb582, 3, none⟩ = some (.int .i64 ((rd_T89 l0 x12_1).f3)) ∧ w'.cell? (ad598.add (((rd_T89 l0 x12_1).f1)).toNat) = some (.int .i64 (rd x7_1 ((rd_T89 l0 x12_1).f1))) ∧ w'.cell? (ad598.add (((rd_T89 l0 x12_1).f2)).toNat) = some (.int .i64 (rd x7_1 ((rd_T89 l0 x12_1).f2)))) (ds := [14, 15]) #[false, false, false, false, false, false, false, false, false, false, false, false, false, false, false, false, false] (by kernel_rfl) rfl rfl ⟨(blk_cell BK582.out 0).trans rfl, (blk_cell BK582.out 1).trans rfl, (blk_cell BK582.out 2).trans rfl, (blk_cell BK582.out 3).trans rfl, hx598_0, hx599_0⟩ (fun hHeld => ?_); refine with_tabW spec_exValues.tab5 spec_exValues.bits5 (fun HT_ HW_ => ?_)
                                  generalize wc.drew = w42 at HO_7 BK582 HB hx598_0 hx599_0 hHeld ⊢
                                  refine pure_ (i := 0) (N := some 16) (v := ?_) (a' := ?_) #[true, false, false, false, false, false, false, false, false, false, false, false, false, false, false, false, false] rfl rfl (any_of HT_.out (by kernel_rfl)) (fun _ _ _ h => h) (Or.inl ⟨by rfl, ?_⟩) ?_ ?_
                                  rotate_left
                                  · intro w'
                                    go_simp
                                    with_reducible rfl
                                  rotate_left
                                  · simp only [Act.put, List.setIfInBounds_toArray, List.set_cons_zero, List.set_cons_succ, i64_w, i32_w]
                                    rfl
                                  refine pure_ (i := 1) (N := some 17) (v := ?_) (a' := ?_) #[true, true, false, false, false, false, false, false, false, false, false, false, false, false, false, false, false] rfl rfl (any_of HT_.out (by kernel_rfl)) (fun _ _ _ h => h) (Or.inl ⟨by rfl, ?_⟩) ?_ ?_
                                  rotate_left
                                  · intro w'
                                    go_simp
                                    with_reducible rfl
                                  rotate_left
                                  · simp only [Act.put, List.setIfInBounds_toArray, List.set_cons_zero, List.set_cons_succ, i64_w, i32_w]
                                    rfl
                                  refine pure_ (i := 3) (N := some 19) (v := ?_) (a' := ?_) #[true, true, false, true, false, false, false, false, false, false, false, false, false, false, false, false, false] rfl rfl (any_of HT_.out (by kernel_rfl)) (fun _ _ _ h => h) (Or.inl ⟨by rfl, ?_⟩) ?_ ?_
                                  rotate_left
                                  · intro w'
                                    go_simp
                                    with_reducible rfl
                                  rotate_left
                                  · simp only [Act.put, List.setIfInBounds_toArray, List.set_cons_zero, List.set_cons_succ, i64_w, i32_w]
                                    rfl
                                  refine pure_ (i := 4) (N := some 20) (v := ?_) (a' := ?_) #[true, true, false, true, true, false, false, false, false, false, false, false, false, false, false, false, false] rfl rfl (any_of HT_.out (by kernel_rfl)) (fun _ _ _ h => h) (Or.inl ⟨by rfl, ?_⟩) ?_ ?_
                                  rotate_left
                                  · intro w'
                                    go_simp
                                    with_reducible rfl
                                  rotate_left
                                  · simp only [Act.put, List.setIfInBounds_toArray, List.set_cons_zero, List.set_cons_succ, i64_w, i32_w]
                                    rfl
                                  refine pure_ (i := 8) (N := some 24) (v := ?_) (a' := ?_) #[true, true, false, true, true, false, false, false, true, false, false, false, false, false, false, false, false] rfl rfl (any_of HT_.out (by kernel_rfl)) (fun _ _ _ h => h) (Or.inl ⟨by rfl, ?_⟩) ?_ ?_
                                  rotate_left
                                  · intro w'
                                    go_simp
                                    with_reducible rfl
                                  rotate_left
                                  · simp only [Act.put, List.setIfInBounds_toArray, List.set_cons_zero, List.set_cons_succ, i64_w, i32_w]
                                    rfl
                                  refine pure_ (i := 9) (N := some 25) (v := ?_) (a' := ?_) #[true, true, false, true, true, false, false, false, true, true, false, false, false, false, false, false, false] rfl rfl (any_of HT_.out (by kernel_rfl)) (fun _ _ _ h => h) (Or.inl ⟨by rfl, ?_⟩) ?_ ?_
                                  rotate_left
                                  · intro w'
                                    go_simp
                                    with_reducible rfl
                                  rotate_left
                                  · simp only [Act.put, List.setIfInBounds_toArray, List.set_cons_zero, List.set_cons_succ, i64_w, i32_w]
                                    rfl
                                  refine take_ (i := 2) (N := some 18) (v := ?_) (a' := ?_) #[true, true, true, true, true, false, false, false, true, true, false, false, false, false, false, false, false] rfl rfl (take_ofW HT_.out HW_.out (by kernel_rfl)) (fun _ _ _ h => h) (Or.inl ⟨by rfl, ?_⟩) hHeld ?_ ?_
                                  rotate_left
                                  · rintro w' ⟨s0, s1, s2, s3, s4, s5⟩
                                    go_simp
                                    with_reducible rfl
                                  rotate_left
                                  · simp only [Act.put, List.setIfInBounds_toArray, List.set_cons_zero, List.set_cons_succ, i64_w, i32_w]
                                    rfl
                                  refine take_ (i := 5) (N := some 21) (v := ?_) (a' := ?_) #[true, true, true, true, true, true, false, false, true, true, false, false, false, false, false, false, false] rfl rfl (take_ofW HT_.out HW_.out (by kernel_rfl)) (fun _ _ _ h => h) (Or.inl ⟨by rfl, ?_⟩) hHeld ?_ ?_
                                  rotate_left
                                  · rintro w' ⟨s0, s1, s2, s3, s4, s5⟩
                                    go_simp
                                    with_reducible rfl
                                  rotate_left
                                  · simp only [Act.put, List.setIfInBounds_toArray, List.set_cons_zero, List.set_cons_succ, i64_w, i32_w]
                                    rfl
                                  refine pure_ (i := 6) (N := some 22) (v := ?_) (a' := ?_) #[true, true, true, true, true, true, true, false, true, true, false, false, false, false, false, false, false] rfl rfl (any_of HT_.out (by kernel_rfl)) (fun _ _ _ h => h) (Or.inl ⟨by rfl, ?_⟩) ?_ ?_
                                  rotate_left
                                  · intro w'
                                    go_simp
                                    with_reducible rfl
                                  rotate_left
                                  · simp only [Act.put, List.setIfInBounds_toArray, List.set_cons_zero, List.set_cons_succ, i64_w, i32_w]
                                    rfl
                                  refine take_ (i := 7) (N := some 23) (v := ?_) (a' := ?_) #[true, true, true, true, true, true, true, true, true, true, false, false, false, false, false, false, false] rfl rfl (take_ofW HT_.out HW_.out (by kernel_rfl)) (fun _ _ _ h => h) (Or.inl ⟨by rfl, ?_⟩) hHeld ?_ ?_
                                  rotate_left
                                  · rintro w' ⟨s0, s1, s2, s3, s4, s5⟩
                                    go_simp
                                    with_reducible rfl
                                  rotate_left
                                  · simp only [Act.put, List.setIfInBounds_toArray, List.set_cons_zero, List.set_cons_succ, i64_w, i32_w]
                                    rfl
                                  refine take_ (i := 10) (N := some 26) (v := ?_) (a' := ?_) #[true, true, true, true, true, true, true, true, true, true, true, false, false, false, false, false, false] rfl rfl (take_ofW HT_.out HW_.out (by kernel_rfl)) (fun _ _ _ h => h) (Or.inl ⟨by rfl, ?_⟩) hHeld ?_ ?_
                                  rotate_left
                                  · rintro w' ⟨s0, s1, s2, s3, s4, s5⟩
                                    go_simp
                                    with_reducible rfl
                                  rotate_left
                                  · simp only [Act.put, List.setIfInBounds_toArray, List.set_cons_zero, List.set_cons_succ, i64_w, i32_w]
                                    rfl
                                  refine pure_ (i := 11) (N := some 27) (v := ?_) (a' := ?_) #[true, true, true, true, true, true, true, true, true, true, true, true, false, false, false, false, false] rfl rfl (any_of HT_.out (by kernel_rfl)) (fun _ _ _ h => h) (Or.inl ⟨by rfl, ?_⟩) ?_ ?_
                                  rotate_left
                                  · intro w'
                                    go_simp
                                    with_reducible rfl
                                  rotate_left
                                  · simp only [Act.put, List.setIfInBounds_toArray, List.set_cons_zero, List.set_cons_succ, i64_w, i32_w]
                                    rfl
                                  refine take_ (i := 12) (N := some 28) (v := ?_) (a' := ?_) #[true, true, true, true, true, true, true, true, true, true, true, true, true, false, false, false, false] rfl rfl (take_ofW HT_.out HW_.out (by kernel_rfl)) (fun _ _ _ h => h) (Or.inl ⟨by rfl, ?_⟩) hHeld ?_ ?_
                                  rotate_left
                                  · rintro w' ⟨s0, s1, s2, s3, s4, s5⟩
                                    go_simp
                                    with_reducible rfl
                                  rotate_left
                                  · simp only [Act.put, List.setIfInBounds_toArray, List.set_cons_zero, List.set_cons_succ, i64_w, i32_w]
                                    rfl
                                  refine one_ (i := 13) (N := some 29) #[true, true, true, true, true, true, true, true, true, true, true, true, true, true, false, false, false] rfl rfl (one_of HT_.out (by kernel_rfl)) (by decide) (fun K hK => ?_)
                                  refine goes_ Try.func150 (by kernel_rfl) rfl #[.string ((rd_T89 l0 x12_1).f0), .int .i64 (rd x7_1 ((rd_T89 l0 x12_1).f1)), .int .i64 (rd x7_1 ((rd_T89 l0 x12_1).f2))] (by rfl) rfl rfl (by (try simp only [List.map_toArray, List.map_cons, List.map_nil]); first | done | rfl | (simp only [List.length_drop, List.length_take]; rfl)) ?_
                                  with_reducible refine (spec_exApply.calls ((rd_T89 l0 x12_1).f0) (rd x7_1 ((rd_T89 l0 x12_1).f1)) (rd x7_1 ((rd_T89 l0 x12_1).f2)) t600 _ A39.out).mono ?_
                                  rintro e w' ⟨rfl, ⟨nd, rfl⟩⟩
                                  refine ⟨_, rfl, ?_⟩
                                  refine hK.out _ _ ⟨(blk_cell BK582.out 0).trans rfl, (blk_cell BK582.out 1).trans rfl, (blk_cell BK582.out 2).trans rfl, (blk_cell BK582.out 3).trans rfl, hHeld.2.2.2.2.1, hHeld.2.2.2.2.2⟩ (fun hHeld => ?_)
                                  clear hK K
                                  refine norm_ (a' := ?_) ?_ ?_
                                  rotate_left
                                  · show Act.put _ (some 29) _ = _
                                    simp only [Act.put, List.setIfInBounds_toArray, List.set_cons_zero, List.set_cons_succ, i64_w, i32_w]
                                    rfl
                                  refine last_ (i := 14) (N := some 30) #[true, true, true, true, true, true, true, true, true, true, true, true, true, true, true, false, false] rfl rfl (one_of HT_.out (by kernel_rfl)) (by decide) (fun K hK => ?_)
                                  refine value_ (w1 := ?_) (v := ?_) (by rfl) rfl ?_ ?_
                                  rotate_left 2
                                  · go_simp
                                    constructor
                                    · rfl
                                    · rfl
                                  refine hK.out _ _ ?_
                                  clear hK K
                                  refine norm_ (a' := ?_) ?_ ?_
                                  rotate_left
                                  · show Act.put _ (some 30) _ = _
                                    simp only [Act.put, List.setIfInBounds_toArray, List.set_cons_zero, List.set_cons_succ, i64_w, i32_w]
                                    rfl
                                  refine last_ (i := 15) (N := some 31) #[true, true, true, true, true, true, true, true, true, true, true, true, true, true, true, true, false] rfl rfl (one_of HT_.out (by kernel_rfl)) (by decide) (fun K hK => ?_)
                                  refine Kd.R_append_step (Kd.int .i64) (w0 := w) w.heap.size (by rfl) (.tmp 16) (.tmp 30) 24 3 (.int .i64 0) 8 rfl Try.underlying24 info3 rfl (by decide) (by omega) (.slice (some ad598) x7_1.length co43) x7_1 t600 [.int .i64 t600] (fun _ => True) (fun _ => False) rfl rfl ?aP (fun _ hk => hk.elim) ?aF ?aO ?aB ?aS ?aL ?_
                                  (case aP => exact rfl)
                                  (case aB => exact (by repeat (first | (with_reducible first | exact HB.out | apply below_alloc | apply pw_below_drewN | apply below_drew1 | refine below_set ?_ GE582.out) | exact HB.out)))
                                  (case aF => exact (fun _ _ => trivial))
                                  (case aO => exact (by (with_reducible repeat (first | apply Kd.R_alloc | apply Kd.R_drewN | apply Kd.R_drew)); exact HO_7.out))
                                  (case aS => exact (below_size (by repeat (first | (with_reducible first | exact HB.out | apply below_alloc | apply pw_below_drewN | apply below_drew1 | refine below_set ?_ GE582.out) | exact HB.out))))
                                  (case aL => have := LMc40.out; omega)
                                  intro v602 w44 ho hb hg hat
                                  rw [← Ny601.out] at ho
                                  have n0_ := Aside0.mk (blk_grown (g := gb582) (o := .cells #[.string ((rd_T89 l0 x12_1).f0), .int .i64 ((rd_T89 l0 x12_1).f1), .int .i64 ((rd_T89 l0 x12_1).f2), .int .i64 ((rd_T89 l0 x12_1).f3)] 89 (0, 0)) (by (with_reducible repeat (first | refine blk_drewN ?_ _ | refine blk_drew ?_ | refine blk_alloc ?_ _)); exact BK582.out) hg (Kd.R_ne HO_7.out BK582.out (by decide)))
                                  have n1_ := Aside0.mk (hb)
                                  have n2_ := Aside0.mk (ho)
                                  clear BK582
                                  clear HB
                                  clear HO_7
                                  have BK582 := n0_
                                  have HB := n1_
                                  have HO603 := n2_
                                  clear n0_ n1_ n2_
                                  clear ho hb hg hat
                                  refine hK.out _ _ ?_
                                  clear hK K
                                  refine norm_ (a' := ?_) ?_ ?_
                                  rotate_left
                                  · show Act.put _ (some 31) _ = _
                                    simp only [Act.put, List.setIfInBounds_toArray, List.set_cons_zero, List.set_cons_succ, i64_w, i32_w]
                                    rfl
                                  refine pure_ (i := 16) (N := some 7) (v := ?_) (a' := ?_) #[true, true, true, true, true, true, true, true, true, true, true, true, true, true, true, true, true] rfl rfl (any_of HT_.out (by kernel_rfl)) (fun _ _ _ h => h) (Or.inl ⟨by rfl, ?_⟩) ?_ ?_
                                  rotate_left
                                  · intro w'
                                    go_simp
                                    with_reducible rfl
                                  rotate_left
                                  · simp only [Act.put, List.setIfInBounds_toArray, List.set_cons_zero, List.set_cons_succ, i64_w, i32_w]
                                    rfl
                                  refine done_ (done_of HT_.out (by kernel_rfl)) ?_
                                  try go_wp2
                                  go_roundg kj11
                                  case measure => have := HK1.out; have := HJ11.out; omega
                                  case rel => exact ⟨(y601), (wrap64 (x12_1 + 1)), (by first | rfl | (simp; done) | (simp [*]; done)), H', ⟨by have := HK1.out; have := HJ11.out; omega⟩, ⟨by (with_reducible repeat (first | apply Kd.R_alloc | apply Kd.R_drewN | apply Kd.R_drew)); exact HO603.out⟩, ⟨by repeat (first | (with_reducible first | exact HB.out | apply below_alloc | apply pw_below_drewN | apply below_drew1 | refine below_set ?_ GE582.out) | exact HB.out)⟩⟩
                                · rw [if_neg c40] at H
                                  exact absurd H (by simp)
                              · rw [if_neg c38] at H
                                exact absurd H (by simp)
                            · rw [if_neg c37] at H
                              exact absurd H (by simp)
                          · rw [if_neg c36] at H
                            exact absurd H (by simp)
                        · rw [if_neg c35] at H
                          exact absurd H (by simp)
          · rw [if_neg c6] at H
            exact absurd H (by simp)
        · rw [if_neg c5] at H
          exact absurd H (by simp)
      · rw [if_neg c4] at H
        have c4b0 : decide (x12_1 < (l0.length : Int)) = false := decide_eq_false c4
        clear c4
        obtain rfl := Option.some.inj H
        go_wp2
        go_ret
        exact ⟨_, by first | rfl | (simp [errW_none, errW_some] <;> rfl) | (simp [*, errW_none, errW_some] <;> rfl), by (with_reducible repeat (first | apply Kd.R_alloc | apply Kd.R_drewN | apply Kd.R_drew)); exact HO_7.out, by repeat (first | (with_reducible first | exact HB.out | apply below_alloc | apply pw_below_drewN | apply below_drew1) | exact HB.out)⟩

/-! ### impl_values: function 104 -/
def impl_values.l0 : Nat → Int → Int → List Int → List (S89) → Int → Int → Option (List Int)
  | 0, _, _, _, _, _, _ => none
  | k + 1, x1, x2, x7, x13, x14, x15 => if x15 < x14 then (if 0 ≤ x15 then (if x15 < (x13.length : Int) then (if ((rd_T89 x13 x15).f0).toList = ([105, 110] : List UInt8) then ((some (([x1, x2] : List Int) : List Int)).bind fun y641 => (if 0 ≤ ((rd_T89 x13 x15).f3) then (if ((rd_T89 x13 x15).f3) < (y641.length : Int) then (if x15 < (x7.length : Int) then (impl_values.l0 k x1 x2 (x7.set (x15 : Int).toNat (rd y641 ((rd_T89 x13 x15).f3))) x13 x14 (wrap64 (x15 + 1))) else (none)) else (none)) else (none))) else (if ((rd_T89 x13 x15).f0).toList = ([99, 111, 110, 115, 116] : List UInt8) then (if x15 < (x7.length : Int) then (impl_values.l0 k x1 x2 (x7.set (x15 : Int).toNat ((rd_T89 x13 x15).f3)) x13 x14 (wrap64 (x15 + 1))) else (none)) else (if 0 ≤ ((rd_T89 x13 x15).f1) then (if ((rd_T89 x13 x15).f1) < (x7.length : Int) then (if 0 ≤ ((rd_T89 x13 x15).f2) then (if ((rd_T89 x13 x15).f2) < (x7.length : Int) then ((impl_apply.f ((rd_T89 x13 x15).f0) (rd x7 ((rd_T89 x13 x15).f1)) (rd x7 ((rd_T89 x13 x15).f2))).bind fun t649 => (if x15 < (x7.length : Int) then (impl_values.l0 k x1 x2 (x7.set (x15 : Int).toNat t649) x13 x14 (wrap64 (x15 + 1))) else (none))) else (none)) else (none)) else (none)) else (none)))) else (none)) else (none)) else (some x7)
def impl_values.f (k : Nat) (l0 : List (S89)) (a1 : Int) (a2 : Int) : Option (List Int) := if 0 ≤ (l0.length : Int) then (if ((l0.length : Int) : Int).toNat ≤ 35184372088832 then (impl_values.l0 k a1 a2 (List.replicate ((l0.length : Int) : Int).toNat 0) l0 (l0.length : Int) 0) else (none)) else (none)
theorem impl_values.mono_l : ∀ k, (∀ y0 y1 y2 y3 y4 y5, LeO (impl_values.l0 k y0 y1 y2 y3 y4 y5) (impl_values.l0 (k + 1) y0 y1 y2 y3 y4 y5))
  | 0 => fun _ _ _ _ _ _ r h => by simp [impl_values.l0] at h
  | k + 1 => by
    have ih0 := impl_values.mono_l k
    · intro y0 y1 y2 y3 y4 y5
      unfold impl_values.l0
      repeat' first
      | (with_reducible exact ih0 _ _ _ _ _ _)
      | (with_reducible exact LeO.refl _)
      | (with_reducible exact LeO.none _)
      | (with_reducible refine LeO.ite ?_ ?_)
      | (with_reducible refine LeO.bind ?_ (fun _ => ?_))
      | exact ih0 _ _ _ _ _ _
      | exact LeO.none _
      | refine LeO.ite ?_ ?_
      | refine LeO.bind ?_ (fun _ => ?_)
theorem impl_values.mono : ∀ a0 a1 a2 k, LeO (impl_values.f k a0 a1 a2) (impl_values.f (k + 1) a0 a1 a2) := by
  intro a0 a1 a2 k
  have ih0 := impl_values.mono_l k
  unfold impl_values.f
  repeat' first
      | (with_reducible exact ih0 _ _ _ _ _ _)
      | (with_reducible exact LeO.refl _)
      | (with_reducible exact LeO.none _)
      | (with_reducible refine LeO.ite ?_ ?_)
      | (with_reducible refine LeO.bind ?_ (fun _ => ?_))
      | exact ih0 _ _ _ _ _ _
      | exact LeO.none _
      | refine LeO.ite ?_ ?_
      | refine LeO.bind ?_ (fun _ => ?_)
def impl_values.T6 : Bool × List (List Nat × List Nat) := (true, [([], []), ([], []), ([], []), ([2], [2]), ([], []), ([], []), ([5], [5]), ([4, 6], [4, 6]), ([7], [7]), ([], []), ([], []), ([10], [10]), ([9, 11], [9, 11]), ([12], [12]), ([3, 8, 13], [3, 8, 13]), ([0, 1, 0, 1, 2, 3, 4, 5, 6, 7, 8, 9, 10, 11, 12, 13, 14], [0, 1]), ([15, 14, 14, 0, 1, 2, 3, 4, 5, 6, 7, 8, 9, 10, 11, 12, 13, 14], [14, 15])])
def impl_values.B6 : List Nat := [0, 0, 0, 4, 0, 0, 32, 112, 240, 0, 0, 1024, 3584, 7680, 16380, 32767, 65535]
theorem impl_values.tab6 : rtab .any (opsOf Try.f104 6) = impl_values.T6 := by kernel_rfl
theorem impl_values.bits6 : waitsOk impl_values.T6.2 impl_values.B6 = true := by kernel_rfl
set_option maxHeartbeats 8000000 in
set_option maxRecDepth 100000 in
theorem impl_values.calls (k : Nat) (A0 : Option Addr) (c0 : Nat) (l0 : List (S89)) (a1 : Int) (a2 : Int) (r : List Int) (w : World) (hr0 : Kd.C k89 w A0 l0.length l0) (hc0 : l0.length ≤ c0) (h : impl_values.f k l0 a1 a2 = some r) :
    Calls Try.prog 104 #[.slice A0 l0.length c0, .int .i64 a1, .int .i64 a2] w fun e w' => ∃ v0_ : Value, e = .returned (v0_) ∧ Kd.R (Kd.int .i64) 3 w' w.heap.size (fun _ => True) v0_ r ∧ Below w.heap.size w w' := by
  have hu89 := Try.underlying89
  have HR0 := Aside0.mk hr0
  have HC0 := Aside0.mk hc0
  clear hr0 hc0
  have HB := Aside0.mk (Below.refl w.heap.size w)
  have H : (if 0 ≤ (l0.length : Int) then (if ((l0.length : Int) : Int).toNat ≤ 35184372088832 then (impl_values.l0 k a1 a2 (List.replicate ((l0.length : Int) : Int).toNat 0) l0 (l0.length : Int) 0) else (none)) else (none)) = some r := h
  clear h
  by_cases c4 : 0 ≤ (l0.length : Int)
  · rw [if_pos c4] at H
    have c4b0 := eq_true c4
    have c4b1 : decide (0 ≤ (l0.length : Int)) = true := decide_eq_true c4
    clear c4
    by_cases c5 : ((l0.length : Int) : Int).toNat ≤ 35184372088832
    · rw [if_pos c5] at H
      have c5b0 := eq_true c5
      have c5b1 : decide (((l0.length : Int) : Int).toNat ≤ 35184372088832) = true := decide_eq_true c5
      clear c5
      obtain ⟨y636, hy636⟩ : ∃ y_ : List Int, y_ = (List.replicate ((l0.length : Int) : Int).toNat 0) := ⟨_, rfl⟩
      replace H : (impl_values.l0 k a1 a2 y636 l0 (l0.length : Int) 0) = some r := by first | (rw [hy636]; with_reducible exact H) | (have H2_ := (Option.bind_some _ _).symm.trans H; rw [hy636]; with_reducible exact H2_) | (have H2_ := (Option.bind_some _ _).symm.trans H; with_reducible exact H2_) | with_reducible exact H | (rw [hy636]; exact H) | exact H
      have Ny636 := Aside0.mk hy636
      clear hy636
      have H' := Aside0.mk H
      clear H
      go_enter Try.func104, Try.ntmps104
      go_wp2_with (first | ((with_reducible refine gate_dst (N := 12) rfl ?_); refine Kd.R_make (Kd.int .i64) _ 3 rfl (N := 12) rfl 24 _ _ rfl (l0.length : Int) rfl rfl Try.underlying24 (.int .i64 0) 8 info3 rfl (by decide) (by omega) 0 (ok := fun _ => True) (okp := fun _ => True) rfl (fun _ hk => hk) trivial (of_decide_eq_true (by first | (with_reducible assumption) | assumption)) (Nat.le_trans (Nat.mul_le_mul_right _ (of_decide_eq_true (by first | (with_reducible assumption) | assumption) : (l0.length : Int).toNat ≤ 35184372088832)) (by omega)) (Below.refl _ _) (Nat.le_refl _) ?_; intro v637 w6 ho7 hb hg_ hnew_; clear hg_ hnew_; (first | rw [← Ny636.out] at ho7 | (simp only [Int.reduceToNat] at ho7; rw [← Ny636.out] at ho7)); have n0_ := Aside0.mk (Kd.R_lower ho7 (below_size (by repeat (first | (with_reducible first | exact HB.out | apply below_alloc | apply pw_below_drewN | apply below_drew1) | exact HB.out)))); have n1_ := Aside0.mk (below_step (by repeat (first | (with_reducible first | exact HB.out | apply below_alloc | apply pw_below_drewN | apply below_drew1) | exact HB.out)) hb); clear HB; have HO638 := n0_; have HB := n1_; clear n0_ n1_; clear hb ho7))
      go_loopg [15] k (fun kq v15 w' => ∃ (x7_1 : List Int) (x15_1 : Int), v15 = .int .i64 x15_1 ∧ Aside0 (impl_values.l0 kq a1 a2 x7_1 l0 (l0.length : Int) x15_1 = some r) ∧ Aside0 (kq ≤ k) ∧ Aside0 (Kd.R (Kd.int .i64) 3 w' w.heap.size (fun _ => True) v637 x7_1) ∧ Aside0 (Below w.heap.size w w'))
      case atStart => exact ⟨(y636), (0), (by first | rfl | (simp; done) | (simp [*]; done)), H', ⟨Nat.le_refl _⟩, ⟨by (with_reducible repeat (first | apply Kd.R_alloc | apply Kd.R_drewN | apply Kd.R_drew)); exact HO638.out⟩, ⟨by repeat (first | (with_reducible first | exact HB.out | apply below_alloc | apply pw_below_drewN | apply below_drew1) | exact HB.out)⟩⟩
      case round =>
        clear H'
        try clear c1
        try clear p2
        try clear c4
        try clear c4b0
        try clear c4b1
        try clear c5
        try clear c5b0
        try clear c5b1
        obtain ⟨x7_1, x15_1, rfl, HA, HK1, HO_7, HB⟩ := hrel
        cases gk with
        | zero => exact absurd HA.out (by simp [impl_values.l0])
        | succ k1 =>
          have H := HA.out
          clear HA
          simp only [impl_values.l0] at H
          by_cases c8 : x15_1 < (l0.length : Int)
          · rw [if_pos c8] at H
            have c8b0 : decide (x15_1 < (l0.length : Int)) = true := decide_eq_true c8
            clear c8
            by_cases c9 : 0 ≤ x15_1
            · rw [if_pos c9] at H
              have c9b0 : decide (0 ≤ x15_1) = true := decide_eq_true c9
              clear c9
              by_cases c10 : x15_1 < (l0.length : Int)
              · rw [if_pos c10] at H
                have c10b0 : decide (x15_1 < (l0.length : Int)) = true := decide_eq_true c10
                clear c10
                by_cases c11 : ((rd_T89 l0 x15_1).f0).toList = ([105, 110] : List UInt8)
                · rw [if_pos c11] at H
                  have c11b0 : (((rd_T89 l0 x15_1).f0).toList == ([105, 110] : List UInt8)) = true := beq_iff_eq.mpr c11
                  have c11b1 : (((rd_T89 l0 x15_1).f0).toList != ([105, 110] : List UInt8)) = false := bne_eq_false_iff_eq.mpr c11
                  clear c11
                  obtain ⟨y641, hy641⟩ : ∃ y_ : List Int, y_ = (([a1, a2] : List Int)) := ⟨_, rfl⟩
                  replace H : (if 0 ≤ ((rd_T89 l0 x15_1).f3) then (if ((rd_T89 l0 x15_1).f3) < (y641.length : Int) then (if x15_1 < (x7_1.length : Int) then (impl_values.l0 k1 a1 a2 (x7_1.set (x15_1 : Int).toNat (rd y641 ((rd_T89 l0 x15_1).f3))) l0 (l0.length : Int) (wrap64 (x15_1 + 1))) else (none)) else (none)) else (none)) = some r := by first | (rw [hy641]; with_reducible exact H) | (have H2_ := (Option.bind_some _ _).symm.trans H; rw [hy641]; with_reducible exact H2_) | (have H2_ := (Option.bind_some _ _).symm.trans H; with_reducible exact H2_) | with_reducible exact H | (rw [hy641]; exact H) | exact H
                  have Ny641 := Aside0.mk hy641
                  clear hy641
                  by_cases c12 : 0 ≤ ((rd_T89 l0 x15_1).f3)
                  · rw [if_pos c12] at H
                    have c12b0 : decide (0 ≤ ((rd_T89 l0 x15_1).f3)) = true := decide_eq_true c12
                    clear c12
                    by_cases c13 : ((rd_T89 l0 x15_1).f3) < (y641.length : Int)
                    · rw [if_pos c13] at H
                      have c13b0 : decide (((rd_T89 l0 x15_1).f3) < (y641.length : Int)) = true := decide_eq_true c13
                      clear c13
                      by_cases c14 : x15_1 < (x7_1.length : Int)
                      · rw [if_pos c14] at H
                        have c14b0 : decide (x15_1 < (x7_1.length : Int)) = true := decide_eq_true c14
                        clear c14
                        obtain ⟨y645, hy645⟩ : ∃ y_ : List Int, y_ = (x7_1.set (x15_1 : Int).toNat (rd y641 ((rd_T89 l0 x15_1).f3))) := ⟨_, rfl⟩
                        replace H : (impl_values.l0 k1 a1 a2 y645 l0 (l0.length : Int) (wrap64 (x15_1 + 1))) = some r := by first | (rw [hy645]; with_reducible exact H) | (have H2_ := (Option.bind_some _ _).symm.trans H; rw [hy645]; with_reducible exact H2_) | (have H2_ := (Option.bind_some _ _).symm.trans H; with_reducible exact H2_) | with_reducible exact H | (rw [hy645]; exact H) | exact H
                        have Ny645 := Aside0.mk hy645
                        clear hy645
                        have H' := Aside0.mk H
                        clear H
                        have p639 : 0 ≤ (x15_1 : Int) := of_decide_eq_true (by first | (with_reducible assumption) | assumption)
                        have q639 : x15_1 < (l0.length : Int) := of_decide_eq_true (by first | (with_reducible assumption) | assumption)
                        obtain ⟨ad639, e639, hx639_0, hx639_1, hx639_2, hx639_3⟩ := at_T89 HR0.out x15_1 p639 q639
                        cases e639
                        replace hx639_0 := (HB.out.cell (World.block_lt_of_cell? w _ hx639_0)).trans hx639_0
                        replace hx639_1 := (HB.out.cell (World.block_lt_of_cell? w _ hx639_1)).trans hx639_1
                        replace hx639_2 := (HB.out.cell (World.block_lt_of_cell? w _ hx639_2)).trans hx639_2
                        replace hx639_3 := (HB.out.cell (World.block_lt_of_cell? w _ hx639_3)).trans hx639_3
                        replace p639 := eq_true p639
                        replace q639 := eq_true q639
                        go_wp2_with (first | ((with_reducible refine gate_dst (N := 9) rfl ?_); refine box_event ?hg (N := 9) ?hd (cs := #[.string (⟨#[]⟩ : ByteArray), .int .i64 0, .int .i64 0, .int .i64 0]) (t := 89) ?hr ?_; (case hd => rfl); (case hg => rfl); (case hr => first | (go_simp; done) | (go_simp; rfl)); intro gb640 hg w16 hbox hb; have n0_ := Aside0.mk (Kd.R_below (by (with_reducible repeat (first | apply Kd.R_alloc | apply Kd.R_drewN | apply Kd.R_drew)); exact HO_7.out) hb); have n1_ := Aside0.mk (below_step (by repeat (first | (with_reducible first | exact HB.out | apply below_alloc | apply pw_below_drewN | apply below_drew1) | exact HB.out)) hb); have n2_ := Aside0.mk (hbox); have n3_ := Aside0.mk ((by rw [hg]; exact (below_size (by repeat (first | (with_reducible first | exact HB.out | apply below_alloc | apply pw_below_drewN | apply below_drew1) | exact HB.out))) : w.heap.size ≤ gb640)); have n4_ := Aside0.mk ((by rw [hg]; exact (below_size (by repeat (first | (with_reducible first | exact HB.out | apply below_alloc | apply pw_below_drewN | apply below_drew1) | exact HB.out))) : w.heap.size ≤ gb640)); clear HO_7; clear HB; have HO_7 := n0_; have HB := n1_; have BK640 := n2_; have GW640 := n3_; have GE640 := n4_; clear n0_ n1_ n2_ n3_ n4_; clear hb hbox hg; have hcz17_0 : w16.cell? ⟨gb640, 0, none⟩ = some (.string (⟨#[]⟩ : ByteArray)) := (blk_cell BK640.out 0).trans rfl; have hcz17_1 : w16.cell? ⟨gb640, 1, none⟩ = some (.int .i64 0) := (blk_cell BK640.out 1).trans rfl; have hcz17_2 : w16.cell? ⟨gb640, 2, none⟩ = some (.int .i64 0) := (blk_cell BK640.out 2).trans rfl; have hcz17_3 : w16.cell? ⟨gb640, 3, none⟩ = some (.int .i64 0) := (blk_cell BK640.out 3).trans rfl; have hfz17_0 := blk_frozen BK640.out 0; have hfz17_1 := blk_frozen BK640.out 1; have hfz17_2 := blk_frozen BK640.out 2; have hfz17_3 := blk_frozen BK640.out 3) | ((with_reducible refine gate_dst (N := 44) rfl ?_); refine Kd.R_lit (Kd.int .i64) _ 3 ?hg (N := 44) ?hd (xs := ([a1, a2] : List Int)) (inner := [.int .i64 a1, .int .i64 a2]) (ok := fun _ => True) (okp := fun _ => True) ?hr ?hp (fun _ hk => hk) trivial (Below.refl _ _) (Nat.le_refl _) (by simp) ?_; (case hd => rfl); (case hg => rfl); (case hr => first | (go_simp; done) | (go_simp; rfl)); (case hp => exact (Reps.one (show Kd.M (Kd.int .i64) _ _ _ a1 [.int .i64 a1] from rfl) (Reps.one (show Kd.M (Kd.int .i64) _ _ _ a2 [.int .i64 a2] from rfl) (Reps.none _ _)))); intro v642 w18 ho19 hb hg_ hnew_; clear hg_ hnew_; (first | rw [← Ny641.out] at ho19 | (simp only [Int.reduceToNat] at ho19; rw [← Ny641.out] at ho19)); have n0_ := Aside0.mk (Kd.R_elder' (by (with_reducible repeat (first | apply Kd.R_alloc | apply Kd.R_drewN | apply Kd.R_drew)); exact (Kd.R_mono (Kd.R_far (p := ⟨gb640, 3, none⟩) (Kd.R_far (p := ⟨gb640, 2, none⟩) (Kd.R_far (p := ⟨gb640, 1, none⟩) (Kd.R_far (p := ⟨gb640, 0, none⟩) (Kd.R_types HO_7.out BK640.out (by decide)) (fun _ hk => hk.2) (.string ((rd_T89 l0 x15_1).f0))) (fun _ hk => hk.2) (.int .i64 ((rd_T89 l0 x15_1).f1))) (fun _ hk => hk.2) (.int .i64 ((rd_T89 l0 x15_1).f2))) (fun _ hk => hk.2) (.int .i64 ((rd_T89 l0 x15_1).f3))) (fun _ h_ => h_.1))) (Kd.R_base ho19) hb); have n1_ := Aside0.mk (Kd.R_lower (Kd.R_new' ho19 (Kd.R_lt (by (with_reducible repeat (first | apply Kd.R_alloc | apply Kd.R_drewN | apply Kd.R_drew)); exact (Kd.R_mono (Kd.R_far (p := ⟨gb640, 3, none⟩) (Kd.R_far (p := ⟨gb640, 2, none⟩) (Kd.R_far (p := ⟨gb640, 1, none⟩) (Kd.R_far (p := ⟨gb640, 0, none⟩) (Kd.R_types HO_7.out BK640.out (by decide)) (fun _ hk => hk.2) (.string ((rd_T89 l0 x15_1).f0))) (fun _ hk => hk.2) (.int .i64 ((rd_T89 l0 x15_1).f1))) (fun _ hk => hk.2) (.int .i64 ((rd_T89 l0 x15_1).f2))) (fun _ hk => hk.2) (.int .i64 ((rd_T89 l0 x15_1).f3))) (fun _ h_ => h_.1))))) (below_size (by repeat (first | (with_reducible first | exact HB.out | apply below_alloc | apply pw_below_drewN | apply below_drew1 | refine below_set ?_ GE640.out) | exact HB.out)))); have n2_ := Aside0.mk (blk_below (g := gb640) (o := .cells #[.string ((rd_T89 l0 x15_1).f0), .int .i64 ((rd_T89 l0 x15_1).f1), .int .i64 ((rd_T89 l0 x15_1).f2), .int .i64 ((rd_T89 l0 x15_1).f3)] 89 (0, 0)) (by (with_reducible repeat (first | refine blk_drewN ?_ _ | refine blk_drew ?_ | refine blk_alloc ?_ _)); refine blk_put (cs := #[.string ((rd_T89 l0 x15_1).f0), .int .i64 ((rd_T89 l0 x15_1).f1), .int .i64 ((rd_T89 l0 x15_1).f2), .int .i64 0]) ?_ 3 _ rfl; (with_reducible repeat (first | refine blk_drewN ?_ _ | refine blk_drew ?_ | refine blk_alloc ?_ _)); refine blk_put (cs := #[.string ((rd_T89 l0 x15_1).f0), .int .i64 ((rd_T89 l0 x15_1).f1), .int .i64 0, .int .i64 0]) ?_ 2 _ rfl; (with_reducible repeat (first | refine blk_drewN ?_ _ | refine blk_drew ?_ | refine blk_alloc ?_ _)); refine blk_put (cs := #[.string ((rd_T89 l0 x15_1).f0), .int .i64 0, .int .i64 0, .int .i64 0]) ?_ 1 _ rfl; (with_reducible repeat (first | refine blk_drewN ?_ _ | refine blk_drew ?_ | refine blk_alloc ?_ _)); refine blk_put (cs := #[.string (⟨#[]⟩ : ByteArray), .int .i64 0, .int .i64 0, .int .i64 0]) ?_ 0 _ rfl; (with_reducible repeat (first | refine blk_drewN ?_ _ | refine blk_drew ?_ | refine blk_alloc ?_ _)); exact BK640.out) hb); have n3_ := Aside0.mk (below_step (by repeat (first | (with_reducible first | exact HB.out | apply below_alloc | apply pw_below_drewN | apply below_drew1 | refine below_set ?_ GE640.out) | exact HB.out)) hb); clear HO_7; clear BK640; clear HB; have HO_7 := n0_; have HO643 := n1_; have BK640 := n2_; have HB := n3_; clear n0_ n1_ n2_ n3_; clear hb ho19; have hcz20_0 : w18.cell? ⟨gb640, 0, none⟩ = some (.string ((rd_T89 l0 x15_1).f0)) := (blk_cell BK640.out 0).trans rfl; have hcz20_1 : w18.cell? ⟨gb640, 1, none⟩ = some (.int .i64 ((rd_T89 l0 x15_1).f1)) := (blk_cell BK640.out 1).trans rfl; have hcz20_2 : w18.cell? ⟨gb640, 2, none⟩ = some (.int .i64 ((rd_T89 l0 x15_1).f2)) := (blk_cell BK640.out 2).trans rfl; have hcz20_3 : w18.cell? ⟨gb640, 3, none⟩ = some (.int .i64 ((rd_T89 l0 x15_1).f3)) := (blk_cell BK640.out 3).trans rfl; have hfz20_0 := blk_frozen BK640.out 0; have hfz20_1 := blk_frozen BK640.out 1; have hfz20_2 := blk_frozen BK640.out 2; have hfz20_3 := blk_frozen BK640.out 3; obtain ⟨Ao21, co21, eo21⟩ := Kd.R_slice HO643.out; subst eo21; have p644 : 0 ≤ (((rd_T89 l0 x15_1).f3) : Int) := of_decide_eq_true (by first | (with_reducible assumption) | assumption); have q644 : ((rd_T89 l0 x15_1).f3) < (y641.length : Int) := of_decide_eq_true (by first | (with_reducible assumption) | assumption); obtain ⟨ad644, e644, hx644_0⟩ := Kd.at_int (Kd.R_reads' HO643.out).2.2 ((rd_T89 l0 x15_1).f3) p644 q644; cases e644; replace p644 := eq_true p644; replace q644 := eq_true q644; have p15 : 0 ≤ (x15_1 : Int) := of_decide_eq_true (by first | (with_reducible assumption) | assumption); have q15 : (x15_1 : Int) < ((x7_1.length : Int) : Int) := of_decide_eq_true (by first | (with_reducible assumption) | assumption); obtain ⟨go15, co15, eo15, gb15, gl15, cl15, HG15⟩ := Kd.R_form HO_7.out (by omega); (first | cases eo15 | (injection eo15 with ea_ en_ ec_; (first | subst ea_ | (injection ea_ with ea_; subst ea_)); subst ec_; clear en_)); have GB15 := Aside0.mk gb15; have GG15 := Aside0.mk HG15; clear gb15 gl15 HG15; obtain ⟨hx15_0, hf15_0⟩ := Kd.R_celln 0 HO_7.out (x15_1 : Int) p15 q15; replace p15 := eq_true p15; replace q15 := eq_true q15; have n_ := Aside0.mk (Kd.R_mono (ok' := (fun k_ => some k_ ≠ (.slice (some ad644) y641.length co21 : Value).ownBlock)) HO_7.out (fun k_ hk => hk.2)); clear HO_7; have HO_7 := n_; clear n_; obtain ⟨hy22_, hz22_⟩ := Kd.R_celln 0 HO_7.out (x15_1 : Int) (of_decide_eq_true (by first | (with_reducible assumption) | assumption)) (of_decide_eq_true (by first | (with_reducible assumption) | assumption)); have HP22 := Kd.R_putg HO_7.out (x15_1 : Int) (rd y641 ((rd_T89 l0 x15_1).f3))) | ((with_reducible refine gate_store (t := 3) (p := 49) rfl ?_); refine store_event (t := 3) (p := 49) (v := ?vo_w23) (w1 := (w18.setCell ⟨go15, (x15_1 : Int).toNat, none⟩ (.int .i64 (rd y641 ((rd_T89 l0 x15_1).f3))))) ?hg ?ho ?hn ?hr ?_; (case ho => rfl); (case hg => rfl); (case hn => rfl); (case hr => first | (go_simp; done) | (go_simp; rfl)); intro w23 hw; have hg : w18.grownBy w23 (some go15) := (by rw [hw]; exact HP22.2); have hp_ : Kd.R (Kd.int .i64) 3 w23 w.heap.size (fun k_ => some k_ ≠ (.slice (some ad644) y641.length co21 : Value).ownBlock) (.slice (some ⟨go15, 0, none⟩) x7_1.length co15) y645 := (by rw [hw, Ny645.out]; exact HP22.1); clear HP22; have n0_ := Aside0.mk (hp_); have n1_ := Aside0.mk (blk_grown (g := gb640) (o := .cells #[.string ((rd_T89 l0 x15_1).f0), .int .i64 ((rd_T89 l0 x15_1).f1), .int .i64 ((rd_T89 l0 x15_1).f2), .int .i64 ((rd_T89 l0 x15_1).f3)] 89 (0, 0)) (by (with_reducible repeat (first | refine blk_drewN ?_ _ | refine blk_drew ?_ | refine blk_alloc ?_ _)); exact BK640.out) hg (Kd.R_ne HO_7.out BK640.out (by decide))); have n2_ := Aside0.mk (Kd.R_after (v := (.slice (some ⟨go15, 0, none⟩) x7_1.length co15)) (v1 := (.slice (some ⟨go15, 0, none⟩) x7_1.length co15)) (ok := (fun _ => True)) (by (with_reducible repeat (first | apply Kd.R_alloc | apply Kd.R_drewN | apply Kd.R_drew)); exact HO643.out) hg (.inl rfl)); have n3_ := Aside0.mk ((by rw [hw]; exact below_set (HB.out) GB15.out : Below w.heap.size w w23)); clear HO_7; clear BK640; clear HO643; clear HB; have HO_7 := n0_; have BK640 := n1_; have HO643 := n2_; have HB := n3_; clear n0_ n1_ n2_ n3_; clear hg hw hp_))
                        go_roundg k1
                        case measure => have := HK1.out; omega
                        case rel => exact ⟨(y645), (wrap64 (x15_1 + 1)), (by first | rfl | (simp; done) | (simp [*]; done)), H', ⟨by have := HK1.out; omega⟩, ⟨by (with_reducible repeat (first | apply Kd.R_alloc | apply Kd.R_drewN | apply Kd.R_drew)); exact Kd.R_mono HO_7.out (fun _ hk => trivial)⟩, ⟨by repeat (first | (with_reducible first | exact HB.out | apply below_alloc | apply pw_below_drewN | apply below_drew1 | refine below_set ?_ GE640.out) | exact HB.out)⟩⟩
                      · rw [if_neg c14] at H
                        exact absurd H (by simp)
                    · rw [if_neg c13] at H
                      exact absurd H (by simp)
                  · rw [if_neg c12] at H
                    exact absurd H (by simp)
                · rw [if_neg c11] at H
                  have c11b0 : (((rd_T89 l0 x15_1).f0).toList == ([105, 110] : List UInt8)) = false := beq_eq_false_iff_ne.mpr c11
                  have c11b1 : (((rd_T89 l0 x15_1).f0).toList != ([105, 110] : List UInt8)) = true := bne_iff_ne.mpr c11
                  by_cases c24 : ((rd_T89 l0 x15_1).f0).toList = ([99, 111, 110, 115, 116] : List UInt8)
                  · rw [if_pos c24] at H
                    have c24b0 : (((rd_T89 l0 x15_1).f0).toList == ([99, 111, 110, 115, 116] : List UInt8)) = true := beq_iff_eq.mpr c24
                    have c24b1 : (((rd_T89 l0 x15_1).f0).toList != ([99, 111, 110, 115, 116] : List UInt8)) = false := bne_eq_false_iff_eq.mpr c24
                    clear c24
                    by_cases c25 : x15_1 < (x7_1.length : Int)
                    · rw [if_pos c25] at H
                      have c25b0 : decide (x15_1 < (x7_1.length : Int)) = true := decide_eq_true c25
                      clear c25
                      obtain ⟨y646, hy646⟩ : ∃ y_ : List Int, y_ = (x7_1.set (x15_1 : Int).toNat ((rd_T89 l0 x15_1).f3)) := ⟨_, rfl⟩
                      replace H : (impl_values.l0 k1 a1 a2 y646 l0 (l0.length : Int) (wrap64 (x15_1 + 1))) = some r := by first | (rw [hy646]; with_reducible exact H) | (have H2_ := (Option.bind_some _ _).symm.trans H; rw [hy646]; with_reducible exact H2_) | (have H2_ := (Option.bind_some _ _).symm.trans H; with_reducible exact H2_) | with_reducible exact H | (rw [hy646]; exact H) | exact H
                      have Ny646 := Aside0.mk hy646
                      clear hy646
                      have H' := Aside0.mk H
                      clear H
                      have p639 : 0 ≤ (x15_1 : Int) := of_decide_eq_true (by first | (with_reducible assumption) | assumption)
                      have q639 : x15_1 < (l0.length : Int) := of_decide_eq_true (by first | (with_reducible assumption) | assumption)
                      obtain ⟨ad639, e639, hx639_0, hx639_1, hx639_2, hx639_3⟩ := at_T89 HR0.out x15_1 p639 q639
                      cases e639
                      replace hx639_0 := (HB.out.cell (World.block_lt_of_cell? w _ hx639_0)).trans hx639_0
                      replace hx639_1 := (HB.out.cell (World.block_lt_of_cell? w _ hx639_1)).trans hx639_1
                      replace hx639_2 := (HB.out.cell (World.block_lt_of_cell? w _ hx639_2)).trans hx639_2
                      replace hx639_3 := (HB.out.cell (World.block_lt_of_cell? w _ hx639_3)).trans hx639_3
                      replace p639 := eq_true p639
                      replace q639 := eq_true q639
                      go_wp2_with (first | ((with_reducible refine gate_dst (N := 9) rfl ?_); refine box_event ?hg (N := 9) ?hd (cs := #[.string (⟨#[]⟩ : ByteArray), .int .i64 0, .int .i64 0, .int .i64 0]) (t := 89) ?hr ?_; (case hd => rfl); (case hg => rfl); (case hr => first | (go_simp; done) | (go_simp; rfl)); intro gb640 hg w27 hbox hb; have n0_ := Aside0.mk (Kd.R_below (by (with_reducible repeat (first | apply Kd.R_alloc | apply Kd.R_drewN | apply Kd.R_drew)); exact HO_7.out) hb); have n1_ := Aside0.mk (below_step (by repeat (first | (with_reducible first | exact HB.out | apply below_alloc | apply pw_below_drewN | apply below_drew1) | exact HB.out)) hb); have n2_ := Aside0.mk (hbox); have n3_ := Aside0.mk ((by rw [hg]; exact (below_size (by repeat (first | (with_reducible first | exact HB.out | apply below_alloc | apply pw_below_drewN | apply below_drew1) | exact HB.out))) : w.heap.size ≤ gb640)); have n4_ := Aside0.mk ((by rw [hg]; exact (below_size (by repeat (first | (with_reducible first | exact HB.out | apply below_alloc | apply pw_below_drewN | apply below_drew1) | exact HB.out))) : w.heap.size ≤ gb640)); clear HO_7; clear HB; have HO_7 := n0_; have HB := n1_; have BK640 := n2_; have GW640 := n3_; have GE640 := n4_; clear n0_ n1_ n2_ n3_ n4_; clear hb hbox hg; have hcz28_0 : w27.cell? ⟨gb640, 0, none⟩ = some (.string (⟨#[]⟩ : ByteArray)) := (blk_cell BK640.out 0).trans rfl; have hcz28_1 : w27.cell? ⟨gb640, 1, none⟩ = some (.int .i64 0) := (blk_cell BK640.out 1).trans rfl; have hcz28_2 : w27.cell? ⟨gb640, 2, none⟩ = some (.int .i64 0) := (blk_cell BK640.out 2).trans rfl; have hcz28_3 : w27.cell? ⟨gb640, 3, none⟩ = some (.int .i64 0) := (blk_cell BK640.out 3).trans rfl; have hfz28_0 := blk_frozen BK640.out 0; have hfz28_1 := blk_frozen BK640.out 1; have hfz28_2 := blk_frozen BK640.out 2; have hfz28_3 := blk_frozen BK640.out 3) | ((with_reducible refine gate_store (t := 89) (p := 9) rfl ?_); refine store_event (t := 89) (p := 9) (v := ?vo_w29) (w1 := ((((w27.setCell ⟨gb640, 0, none⟩ (.string ((rd_T89 l0 x15_1).f0))).setCell ⟨gb640, 1, none⟩ (.int .i64 ((rd_T89 l0 x15_1).f1))).setCell ⟨gb640, 2, none⟩ (.int .i64 ((rd_T89 l0 x15_1).f2))).setCell ⟨gb640, 3, none⟩ (.int .i64 ((rd_T89 l0 x15_1).f3)))) ?hg ?ho ?hn ?hr ?_; (case ho => rfl); (case hg => rfl); (case hn => rfl); (case hr => first | (go_simp; done) | (go_simp; rfl)); intro w29 hw; have n0_ : Aside0 (Kd.R (Kd.int .i64) 3 w29 w.heap.size (fun _ => True) v637 x7_1) := ⟨(by rw [hw]; exact (by (with_reducible repeat (first | apply Kd.R_alloc | apply Kd.R_drewN | apply Kd.R_drew)); exact Kd.R_mono (Kd.R_far (p := ⟨gb640, 3, none⟩) (Kd.R_far (p := ⟨gb640, 2, none⟩) (Kd.R_far (p := ⟨gb640, 1, none⟩) (Kd.R_far (p := ⟨gb640, 0, none⟩) (Kd.R_types HO_7.out BK640.out (by decide)) (fun _ hk => hk.2) (.string ((rd_T89 l0 x15_1).f0))) (fun _ hk => hk.2) (.int .i64 ((rd_T89 l0 x15_1).f1))) (fun _ hk => hk.2) (.int .i64 ((rd_T89 l0 x15_1).f2))) (fun _ hk => hk.2) (.int .i64 ((rd_T89 l0 x15_1).f3))) (fun _ hk => trivial)))⟩; have n1_ : Aside0 (w29.heap[gb640]? = some (.cells #[.string ((rd_T89 l0 x15_1).f0), .int .i64 ((rd_T89 l0 x15_1).f1), .int .i64 ((rd_T89 l0 x15_1).f2), .int .i64 ((rd_T89 l0 x15_1).f3)] 89 (0, 0))) := ⟨(by rw [hw]; exact (by (with_reducible repeat (first | refine blk_drewN ?_ _ | refine blk_drew ?_ | refine blk_alloc ?_ _)); refine blk_put (cs := #[.string ((rd_T89 l0 x15_1).f0), .int .i64 ((rd_T89 l0 x15_1).f1), .int .i64 ((rd_T89 l0 x15_1).f2), .int .i64 0]) ?_ 3 _ rfl; (with_reducible repeat (first | refine blk_drewN ?_ _ | refine blk_drew ?_ | refine blk_alloc ?_ _)); refine blk_put (cs := #[.string ((rd_T89 l0 x15_1).f0), .int .i64 ((rd_T89 l0 x15_1).f1), .int .i64 0, .int .i64 0]) ?_ 2 _ rfl; (with_reducible repeat (first | refine blk_drewN ?_ _ | refine blk_drew ?_ | refine blk_alloc ?_ _)); refine blk_put (cs := #[.string ((rd_T89 l0 x15_1).f0), .int .i64 0, .int .i64 0, .int .i64 0]) ?_ 1 _ rfl; (with_reducible repeat (first | refine blk_drewN ?_ _ | refine blk_drew ?_ | refine blk_alloc ?_ _)); refine blk_put (cs := #[.string (⟨#[]⟩ : ByteArray), .int .i64 0, .int .i64 0, .int .i64 0]) ?_ 0 _ rfl; (with_reducible repeat (first | refine blk_drewN ?_ _ | refine blk_drew ?_ | refine blk_alloc ?_ _)); exact BK640.out))⟩; have n2_ : Aside0 (Below w.heap.size w w29) := ⟨(by rw [hw]; exact (by repeat (first | (with_reducible first | exact HB.out | apply below_alloc | apply pw_below_drewN | apply below_drew1 | refine below_set ?_ GE640.out) | exact HB.out)))⟩; clear hw; clear HO_7; clear BK640; clear HB; have HO_7 := n0_; have BK640 := n1_; have HB := n2_; clear n0_ n1_ n2_; have hcz30_0 : w29.cell? ⟨gb640, 0, none⟩ = some (.string ((rd_T89 l0 x15_1).f0)) := (blk_cell BK640.out 0).trans rfl; have hcz30_1 : w29.cell? ⟨gb640, 1, none⟩ = some (.int .i64 ((rd_T89 l0 x15_1).f1)) := (blk_cell BK640.out 1).trans rfl; have hcz30_2 : w29.cell? ⟨gb640, 2, none⟩ = some (.int .i64 ((rd_T89 l0 x15_1).f2)) := (blk_cell BK640.out 2).trans rfl; have hcz30_3 : w29.cell? ⟨gb640, 3, none⟩ = some (.int .i64 ((rd_T89 l0 x15_1).f3)) := (blk_cell BK640.out 3).trans rfl; have hfz30_0 := blk_frozen BK640.out 0; have hfz30_1 := blk_frozen BK640.out 1; have hfz30_2 := blk_frozen BK640.out 2; have hfz30_3 := blk_frozen BK640.out 3; have p26 : 0 ≤ (x15_1 : Int) := of_decide_eq_true (by first | (with_reducible assumption) | assumption); have q26 : (x15_1 : Int) < ((x7_1.length : Int) : Int) := of_decide_eq_true (by first | (with_reducible assumption) | assumption); obtain ⟨go26, co26, eo26, gb26, gl26, cl26, HG26⟩ := Kd.R_form HO_7.out (by omega); (first | cases eo26 | (injection eo26 with ea_ en_ ec_; (first | subst ea_ | (injection ea_ with ea_; subst ea_)); subst ec_; clear en_)); have GB26 := Aside0.mk gb26; have GG26 := Aside0.mk HG26; clear gb26 gl26 HG26; obtain ⟨hx26_0, hf26_0⟩ := Kd.R_celln 0 HO_7.out (x15_1 : Int) p26 q26; replace p26 := eq_true p26; replace q26 := eq_true q26; obtain ⟨hy31_, hz31_⟩ := Kd.R_celln 0 HO_7.out (x15_1 : Int) (of_decide_eq_true (by first | (with_reducible assumption) | assumption)) (of_decide_eq_true (by first | (with_reducible assumption) | assumption)); have HP31 := Kd.R_putg HO_7.out (x15_1 : Int) ((rd_T89 l0 x15_1).f3)) | ((with_reducible refine gate_store (t := 3) (p := 56) rfl ?_); refine store_event (t := 3) (p := 56) (v := ?vo_w32) (w1 := (w29.setCell ⟨go26, (x15_1 : Int).toNat, none⟩ (.int .i64 ((rd_T89 l0 x15_1).f3)))) ?hg ?ho ?hn ?hr ?_; (case ho => rfl); (case hg => rfl); (case hn => rfl); (case hr => first | (go_simp; done) | (go_simp; rfl)); intro w32 hw; have hg : w29.grownBy w32 (some go26) := (by rw [hw]; exact HP31.2); have hp_ : Kd.R (Kd.int .i64) 3 w32 w.heap.size (fun _ => True) (.slice (some ⟨go26, 0, none⟩) x7_1.length co26) y646 := (by rw [hw, Ny646.out]; exact HP31.1); clear HP31; have n0_ := Aside0.mk (hp_); have n1_ := Aside0.mk (blk_grown (g := gb640) (o := .cells #[.string ((rd_T89 l0 x15_1).f0), .int .i64 ((rd_T89 l0 x15_1).f1), .int .i64 ((rd_T89 l0 x15_1).f2), .int .i64 ((rd_T89 l0 x15_1).f3)] 89 (0, 0)) (by (with_reducible repeat (first | refine blk_drewN ?_ _ | refine blk_drew ?_ | refine blk_alloc ?_ _)); exact BK640.out) hg (Kd.R_ne HO_7.out BK640.out (by decide))); have n2_ := Aside0.mk ((by rw [hw]; exact below_set (HB.out) GB26.out : Below w.heap.size w w32)); clear HO_7; clear BK640; clear HB; have HO_7 := n0_; have BK640 := n1_; have HB := n2_; clear n0_ n1_ n2_; clear hg hw hp_))
                      go_roundg k1
                      case measure => have := HK1.out; omega
                      case rel => exact ⟨(y646), (wrap64 (x15_1 + 1)), (by first | rfl | (simp; done) | (simp [*]; done)), H', ⟨by have := HK1.out; omega⟩, ⟨by (with_reducible repeat (first | apply Kd.R_alloc | apply Kd.R_drewN | apply Kd.R_drew)); exact HO_7.out⟩, ⟨by repeat (first | (with_reducible first | exact HB.out | apply below_alloc | apply pw_below_drewN | apply below_drew1 | refine below_set ?_ GE640.out) | exact HB.out)⟩⟩
                    · rw [if_neg c25] at H
                      exact absurd H (by simp)
                  · rw [if_neg c24] at H
                    have c24b0 : (((rd_T89 l0 x15_1).f0).toList == ([99, 111, 110, 115, 116] : List UInt8)) = false := beq_eq_false_iff_ne.mpr c24
                    have c24b1 : (((rd_T89 l0 x15_1).f0).toList != ([99, 111, 110, 115, 116] : List UInt8)) = true := bne_iff_ne.mpr c24
                    by_cases c33 : 0 ≤ ((rd_T89 l0 x15_1).f1)
                    · rw [if_pos c33] at H
                      have c33b0 : decide (0 ≤ ((rd_T89 l0 x15_1).f1)) = true := decide_eq_true c33
                      clear c33
                      by_cases c34 : ((rd_T89 l0 x15_1).f1) < (x7_1.length : Int)
                      · rw [if_pos c34] at H
                        have c34b0 : decide (((rd_T89 l0 x15_1).f1) < (x7_1.length : Int)) = true := decide_eq_true c34
                        clear c34
                        by_cases c35 : 0 ≤ ((rd_T89 l0 x15_1).f2)
                        · rw [if_pos c35] at H
                          have c35b0 : decide (0 ≤ ((rd_T89 l0 x15_1).f2)) = true := decide_eq_true c35
                          clear c35
                          by_cases c36 : ((rd_T89 l0 x15_1).f2) < (x7_1.length : Int)
                          · rw [if_pos c36] at H
                            have c36b0 : decide (((rd_T89 l0 x15_1).f2) < (x7_1.length : Int)) = true := decide_eq_true c36
                            clear c36
                            replace H := Option.bind_eq_some_iff.mp H
                            obtain ⟨t649, A370, H⟩ := H
                            replace H : (if x15_1 < (x7_1.length : Int) then (impl_values.l0 k1 a1 a2 (x7_1.set (x15_1 : Int).toNat t649) l0 (l0.length : Int) (wrap64 (x15_1 + 1))) else (none)) = some r := H
                            have A37 := Aside0.mk A370
                            clear A370
                            by_cases c38 : x15_1 < (x7_1.length : Int)
                            · rw [if_pos c38] at H
                              have c38b0 : decide (x15_1 < (x7_1.length : Int)) = true := decide_eq_true c38
                              clear c38
                              obtain ⟨y650, hy650⟩ : ∃ y_ : List Int, y_ = (x7_1.set (x15_1 : Int).toNat t649) := ⟨_, rfl⟩
                              replace H : (impl_values.l0 k1 a1 a2 y650 l0 (l0.length : Int) (wrap64 (x15_1 + 1))) = some r := by first | (rw [hy650]; with_reducible exact H) | (have H2_ := (Option.bind_some _ _).symm.trans H; rw [hy650]; with_reducible exact H2_) | (have H2_ := (Option.bind_some _ _).symm.trans H; with_reducible exact H2_) | with_reducible exact H | (rw [hy650]; exact H) | exact H
                              have Ny650 := Aside0.mk hy650
                              clear hy650
                              have H' := Aside0.mk H
                              clear H
                              have p639 : 0 ≤ (x15_1 : Int) := of_decide_eq_true (by first | (with_reducible assumption) | assumption)
                              have q639 : x15_1 < (l0.length : Int) := of_decide_eq_true (by first | (with_reducible assumption) | assumption)
                              obtain ⟨ad639, e639, hx639_0, hx639_1, hx639_2, hx639_3⟩ := at_T89 HR0.out x15_1 p639 q639
                              cases e639
                              replace hx639_0 := (HB.out.cell (World.block_lt_of_cell? w _ hx639_0)).trans hx639_0
                              replace hx639_1 := (HB.out.cell (World.block_lt_of_cell? w _ hx639_1)).trans hx639_1
                              replace hx639_2 := (HB.out.cell (World.block_lt_of_cell? w _ hx639_2)).trans hx639_2
                              replace hx639_3 := (HB.out.cell (World.block_lt_of_cell? w _ hx639_3)).trans hx639_3
                              replace p639 := eq_true p639
                              replace q639 := eq_true q639
                              try go_wp2_with (first | ((with_reducible refine gate_dst (N := 9) rfl ?_); refine box_event ?hg (N := 9) ?hd (cs := #[.string (⟨#[]⟩ : ByteArray), .int .i64 0, .int .i64 0, .int .i64 0]) (t := 89) ?hr ?_; (case hd => rfl); (case hg => rfl); (case hr => first | (go_simp; done) | (go_simp; rfl)); intro gb640 hg w40 hbox hb; have n0_ := Aside0.mk (Kd.R_below (by (with_reducible repeat (first | apply Kd.R_alloc | apply Kd.R_drewN | apply Kd.R_drew)); exact HO_7.out) hb); have n1_ := Aside0.mk (below_step (by repeat (first | (with_reducible first | exact HB.out | apply below_alloc | apply pw_below_drewN | apply below_drew1) | exact HB.out)) hb); have n2_ := Aside0.mk (hbox); have n3_ := Aside0.mk ((by rw [hg]; exact (below_size (by repeat (first | (with_reducible first | exact HB.out | apply below_alloc | apply pw_below_drewN | apply below_drew1) | exact HB.out))) : w.heap.size ≤ gb640)); have n4_ := Aside0.mk ((by rw [hg]; exact (below_size (by repeat (first | (with_reducible first | exact HB.out | apply below_alloc | apply pw_below_drewN | apply below_drew1) | exact HB.out))) : w.heap.size ≤ gb640)); clear HO_7; clear HB; have HO_7 := n0_; have HB := n1_; have BK640 := n2_; have GW640 := n3_; have GE640 := n4_; clear n0_ n1_ n2_ n3_ n4_; clear hb hbox hg; have hcz41_0 : w40.cell? ⟨gb640, 0, none⟩ = some (.string (⟨#[]⟩ : ByteArray)) := (blk_cell BK640.out 0).trans rfl; have hcz41_1 : w40.cell? ⟨gb640, 1, none⟩ = some (.int .i64 0) := (blk_cell BK640.out 1).trans rfl; have hcz41_2 : w40.cell? ⟨gb640, 2, none⟩ = some (.int .i64 0) := (blk_cell BK640.out 2).trans rfl; have hcz41_3 : w40.cell? ⟨gb640, 3, none⟩ = some (.int .i64 0) := (blk_cell BK640.out 3).trans rfl; have hfz41_0 := blk_frozen BK640.out 0; have hfz41_1 := blk_frozen BK640.out 1; have hfz41_2 := blk_frozen BK640.out 2; have hfz41_3 := blk_frozen BK640.out 3))
                              have n0_ : Aside0 (Kd.R (Kd.int .i64) 3 ((((w40.setCell ⟨gb640, 0, none⟩ (.string ((rd_T89 l0 x15_1).f0))).setCell ⟨gb640, 1, none⟩ (.int .i64 ((rd_T89 l0 x15_1).f1))).setCell ⟨gb640, 2, none⟩ (.int .i64 ((rd_T89 l0 x15_1).f2))).setCell ⟨gb640, 3, none⟩ (.int .i64 ((rd_T89 l0 x15_1).f3))) w.heap.size (fun _ => True) v637 x7_1) := ⟨by (with_reducible repeat (first | apply Kd.R_alloc | apply Kd.R_drewN | apply Kd.R_drew)); exact Kd.R_mono (Kd.R_far (p := ⟨gb640, 3, none⟩) (Kd.R_far (p := ⟨gb640, 2, none⟩) (Kd.R_far (p := ⟨gb640, 1, none⟩) (Kd.R_far (p := ⟨gb640, 0, none⟩) (Kd.R_types HO_7.out BK640.out (by decide)) (fun _ hk => hk.2) (.string ((rd_T89 l0 x15_1).f0))) (fun _ hk => hk.2) (.int .i64 ((rd_T89 l0 x15_1).f1))) (fun _ hk => hk.2) (.int .i64 ((rd_T89 l0 x15_1).f2))) (fun _ hk => hk.2) (.int .i64 ((rd_T89 l0 x15_1).f3))) (fun _ hk => trivial)⟩
                              have n1_ : Aside0 (((((w40.setCell ⟨gb640, 0, none⟩ (.string ((rd_T89 l0 x15_1).f0))).setCell ⟨gb640, 1, none⟩ (.int .i64 ((rd_T89 l0 x15_1).f1))).setCell ⟨gb640, 2, none⟩ (.int .i64 ((rd_T89 l0 x15_1).f2))).setCell ⟨gb640, 3, none⟩ (.int .i64 ((rd_T89 l0 x15_1).f3))).heap[gb640]? = some (.cells #[.string ((rd_T89 l0 x15_1).f0), .int .i64 ((rd_T89 l0 x15_1).f1), .int .i64 ((rd_T89 l0 x15_1).f2), .int .i64 ((rd_T89 l0 x15_1).f3)] 89 (0, 0))) := ⟨by (with_reducible repeat (first | refine blk_drewN ?_ _ | refine blk_drew ?_ | refine blk_alloc ?_ _)); refine blk_put (cs := #[.string ((rd_T89 l0 x15_1).f0), .int .i64 ((rd_T89 l0 x15_1).f1), .int .i64 ((rd_T89 l0 x15_1).f2), .int .i64 0]) ?_ 3 _ rfl; (with_reducible repeat (first | refine blk_drewN ?_ _ | refine blk_drew ?_ | refine blk_alloc ?_ _)); refine blk_put (cs := #[.string ((rd_T89 l0 x15_1).f0), .int .i64 ((rd_T89 l0 x15_1).f1), .int .i64 0, .int .i64 0]) ?_ 2 _ rfl; (with_reducible repeat (first | refine blk_drewN ?_ _ | refine blk_drew ?_ | refine blk_alloc ?_ _)); refine blk_put (cs := #[.string ((rd_T89 l0 x15_1).f0), .int .i64 0, .int .i64 0, .int .i64 0]) ?_ 1 _ rfl; (with_reducible repeat (first | refine blk_drewN ?_ _ | refine blk_drew ?_ | refine blk_alloc ?_ _)); refine blk_put (cs := #[.string (⟨#[]⟩ : ByteArray), .int .i64 0, .int .i64 0, .int .i64 0]) ?_ 0 _ rfl; (with_reducible repeat (first | refine blk_drewN ?_ _ | refine blk_drew ?_ | refine blk_alloc ?_ _)); exact BK640.out⟩
                              have n2_ : Aside0 (Below w.heap.size w ((((w40.setCell ⟨gb640, 0, none⟩ (.string ((rd_T89 l0 x15_1).f0))).setCell ⟨gb640, 1, none⟩ (.int .i64 ((rd_T89 l0 x15_1).f1))).setCell ⟨gb640, 2, none⟩ (.int .i64 ((rd_T89 l0 x15_1).f2))).setCell ⟨gb640, 3, none⟩ (.int .i64 ((rd_T89 l0 x15_1).f3)))) := ⟨by repeat (first | (with_reducible first | exact HB.out | apply below_alloc | apply pw_below_drewN | apply below_drew1 | refine below_set ?_ GE640.out) | exact HB.out)⟩
                              (try clear HO_7)
                              (try clear BK640)
                              (try clear HB)
                              generalize ((((w40.setCell ⟨gb640, 0, none⟩ (.string ((rd_T89 l0 x15_1).f0))).setCell ⟨gb640, 1, none⟩ (.int .i64 ((rd_T89 l0 x15_1).f1))).setCell ⟨gb640, 2, none⟩ (.int .i64 ((rd_T89 l0 x15_1).f2))).setCell ⟨gb640, 3, none⟩ (.int .i64 ((rd_T89 l0 x15_1).f3))) = w42 at n0_ n1_ n2_ ⊢
                              have HO_7 := n0_
                              have BK640 := n1_
                              have HB := n2_
                              clear n0_ n1_ n2_
                              have n0_ := Aside0.mk (Kd.R_drew HO_7.out)
                              have n1_ := Aside0.mk (blk_drew BK640.out)
                              have n2_ := Aside0.mk (below_drew1 HB.out)
                              clear HO_7
                              clear BK640
                              clear HB
                              have HO_7 := n0_
                              have BK640 := n1_
                              have HB := n2_
                              clear n0_ n1_ n2_
                              obtain ⟨Ao44, co44, eo44⟩ := Kd.R_slice HO_7.out
                              (first | subst eo44 | (injection eo44 with f1_ f2_ f3_; have f4_ := f1_.symm; have f5_ := f3_.symm; clear f1_ f2_ f3_; subst f4_; subst f5_))
                              have p647 : 0 ≤ (((rd_T89 l0 x15_1).f1) : Int) := of_decide_eq_true (by first | (with_reducible assumption) | assumption)
                              have q647 : ((rd_T89 l0 x15_1).f1) < (x7_1.length : Int) := of_decide_eq_true (by first | (with_reducible assumption) | assumption)
                              obtain ⟨ad647, e647, hx647_0⟩ := Kd.at_int (Kd.R_reads' HO_7.out).2.2 ((rd_T89 l0 x15_1).f1) p647 q647
                              cases e647
                              replace p647 := eq_true p647
                              replace q647 := eq_true q647
                              have p648 : 0 ≤ (((rd_T89 l0 x15_1).f2) : Int) := of_decide_eq_true (by first | (with_reducible assumption) | assumption)
                              have q648 : ((rd_T89 l0 x15_1).f2) < (x7_1.length : Int) := of_decide_eq_true (by first | (with_reducible assumption) | assumption)
                              obtain ⟨ad648, e648, hx648_0⟩ := Kd.at_int (Kd.R_reads' HO_7.out).2.2 ((rd_T89 l0 x15_1).f2) p648 q648
                              obtain rfl : ad647 = ad648 := (by injection e648)
                              replace p648 := eq_true p648
                              replace q648 := eq_true q648
                              refine start_ (n := 17) (S := fun w' => w'.cell? ⟨gb640, 0, none⟩ = some (.string ((rd_T89 l0 x15_1).f0)) ∧ w'.cell? ⟨gb640, 1, none⟩ = some (.int .i64 ((rd_T89 l0 x15_1).f1)) ∧ w'.cell? ⟨gb640, 2, none⟩ = some (.int .i64 ((rd_T89 l0 x15_1).f2)) ∧ w'.cell? ⟨gb640, 3, none⟩ = some (.int .i64 ((rd_T89 l0 x15_1).f3)) ∧ w'.cell? (ad647.add (((rd_T89 l0 x15_1).f1)).toNat) = some (.int .i64 (rd x7_1 ((rd_T89 l0 x15_1).f1))) ∧ w'.cell? (ad647.add (((rd_T89 l0 x15_1).f2)).toNat) = some (.int .i64 (rd x7_1 ((rd_T89 l0 x15_1).f2)))) (ds := [16]) #[false, false, false, false, false, false, false, false, false, false, false, false, false, false, false, false, false] (by kernel_rfl) rfl rfl ⟨(blk_cell BK640.out 0).trans rfl, (blk_cell BK640.out 1).trans rfl, (blk_cell BK640.out 2).trans rfl, (blk_cell BK640.out 3).trans rfl, hx647_0, hx648_0⟩ (fun hHeld => ?_); refine with_tabW impl_values.tab6 impl_values.bits6 (fun HT_ HW_ => ?_)
                              generalize w42.drew = w43 at HO_7 BK640 HB hx647_0 hx648_0 hHeld ⊢
                              refine pure_ (i := 0) (N := some 22) (v := ?_) (a' := ?_) #[true, false, false, false, false, false, false, false, false, false, false, false, false, false, false, false, false] rfl rfl (any_of HT_.out (by kernel_rfl)) (fun _ _ _ h => h) (Or.inl ⟨by rfl, ?_⟩) ?_ ?_
                              rotate_left
                              · intro w'
                                go_simp
                                with_reducible rfl
                              rotate_left
                              · simp only [Act.put, List.setIfInBounds_toArray, List.set_cons_zero, List.set_cons_succ, i64_w, i32_w]
                                rfl
                              refine pure_ (i := 1) (N := some 23) (v := ?_) (a' := ?_) #[true, true, false, false, false, false, false, false, false, false, false, false, false, false, false, false, false] rfl rfl (any_of HT_.out (by kernel_rfl)) (fun _ _ _ h => h) (Or.inl ⟨by rfl, ?_⟩) ?_ ?_
                              rotate_left
                              · intro w'
                                go_simp
                                with_reducible rfl
                              rotate_left
                              · simp only [Act.put, List.setIfInBounds_toArray, List.set_cons_zero, List.set_cons_succ, i64_w, i32_w]
                                rfl
                              refine pure_ (i := 2) (N := some 24) (v := ?_) (a' := ?_) #[true, true, true, false, false, false, false, false, false, false, false, false, false, false, false, false, false] rfl rfl (any_of HT_.out (by kernel_rfl)) (fun _ _ _ h => h) (Or.inl ⟨by rfl, ?_⟩) ?_ ?_
                              rotate_left
                              · intro w'
                                go_simp
                                with_reducible rfl
                              rotate_left
                              · simp only [Act.put, List.setIfInBounds_toArray, List.set_cons_zero, List.set_cons_succ, i64_w, i32_w]
                                rfl
                              refine pure_ (i := 4) (N := some 26) (v := ?_) (a' := ?_) #[true, true, true, false, true, false, false, false, false, false, false, false, false, false, false, false, false] rfl rfl (any_of HT_.out (by kernel_rfl)) (fun _ _ _ h => h) (Or.inl ⟨by rfl, ?_⟩) ?_ ?_
                              rotate_left
                              · intro w'
                                go_simp
                                with_reducible rfl
                              rotate_left
                              · simp only [Act.put, List.setIfInBounds_toArray, List.set_cons_zero, List.set_cons_succ, i64_w, i32_w]
                                rfl
                              refine pure_ (i := 5) (N := some 27) (v := ?_) (a' := ?_) #[true, true, true, false, true, true, false, false, false, false, false, false, false, false, false, false, false] rfl rfl (any_of HT_.out (by kernel_rfl)) (fun _ _ _ h => h) (Or.inl ⟨by rfl, ?_⟩) ?_ ?_
                              rotate_left
                              · intro w'
                                go_simp
                                with_reducible rfl
                              rotate_left
                              · simp only [Act.put, List.setIfInBounds_toArray, List.set_cons_zero, List.set_cons_succ, i64_w, i32_w]
                                rfl
                              refine pure_ (i := 9) (N := some 31) (v := ?_) (a' := ?_) #[true, true, true, false, true, true, false, false, false, true, false, false, false, false, false, false, false] rfl rfl (any_of HT_.out (by kernel_rfl)) (fun _ _ _ h => h) (Or.inl ⟨by rfl, ?_⟩) ?_ ?_
                              rotate_left
                              · intro w'
                                go_simp
                                with_reducible rfl
                              rotate_left
                              · simp only [Act.put, List.setIfInBounds_toArray, List.set_cons_zero, List.set_cons_succ, i64_w, i32_w]
                                rfl
                              refine pure_ (i := 10) (N := some 32) (v := ?_) (a' := ?_) #[true, true, true, false, true, true, false, false, false, true, true, false, false, false, false, false, false] rfl rfl (any_of HT_.out (by kernel_rfl)) (fun _ _ _ h => h) (Or.inl ⟨by rfl, ?_⟩) ?_ ?_
                              rotate_left
                              · intro w'
                                go_simp
                                with_reducible rfl
                              rotate_left
                              · simp only [Act.put, List.setIfInBounds_toArray, List.set_cons_zero, List.set_cons_succ, i64_w, i32_w]
                                rfl
                              refine take_ (i := 3) (N := some 25) (v := ?_) (a' := ?_) #[true, true, true, true, true, true, false, false, false, true, true, false, false, false, false, false, false] rfl rfl (take_ofW HT_.out HW_.out (by kernel_rfl)) (fun _ _ _ h => h) (Or.inl ⟨by rfl, ?_⟩) hHeld ?_ ?_
                              rotate_left
                              · rintro w' ⟨s0, s1, s2, s3, s4, s5⟩
                                go_simp
                                with_reducible rfl
                              rotate_left
                              · simp only [Act.put, List.setIfInBounds_toArray, List.set_cons_zero, List.set_cons_succ, i64_w, i32_w]
                                rfl
                              refine take_ (i := 6) (N := some 28) (v := ?_) (a' := ?_) #[true, true, true, true, true, true, true, false, false, true, true, false, false, false, false, false, false] rfl rfl (take_ofW HT_.out HW_.out (by kernel_rfl)) (fun _ _ _ h => h) (Or.inl ⟨by rfl, ?_⟩) hHeld ?_ ?_
                              rotate_left
                              · rintro w' ⟨s0, s1, s2, s3, s4, s5⟩
                                go_simp
                                with_reducible rfl
                              rotate_left
                              · simp only [Act.put, List.setIfInBounds_toArray, List.set_cons_zero, List.set_cons_succ, i64_w, i32_w]
                                rfl
                              refine pure_ (i := 7) (N := some 29) (v := ?_) (a' := ?_) #[true, true, true, true, true, true, true, true, false, true, true, false, false, false, false, false, false] rfl rfl (any_of HT_.out (by kernel_rfl)) (fun _ _ _ h => h) (Or.inl ⟨by rfl, ?_⟩) ?_ ?_
                              rotate_left
                              · intro w'
                                go_simp
                                with_reducible rfl
                              rotate_left
                              · simp only [Act.put, List.setIfInBounds_toArray, List.set_cons_zero, List.set_cons_succ, i64_w, i32_w]
                                rfl
                              refine take_ (i := 8) (N := some 30) (v := ?_) (a' := ?_) #[true, true, true, true, true, true, true, true, true, true, true, false, false, false, false, false, false] rfl rfl (take_ofW HT_.out HW_.out (by kernel_rfl)) (fun _ _ _ h => h) (Or.inl ⟨by rfl, ?_⟩) hHeld ?_ ?_
                              rotate_left
                              · rintro w' ⟨s0, s1, s2, s3, s4, s5⟩
                                go_simp
                                with_reducible rfl
                              rotate_left
                              · simp only [Act.put, List.setIfInBounds_toArray, List.set_cons_zero, List.set_cons_succ, i64_w, i32_w]
                                rfl
                              refine take_ (i := 11) (N := some 33) (v := ?_) (a' := ?_) #[true, true, true, true, true, true, true, true, true, true, true, true, false, false, false, false, false] rfl rfl (take_ofW HT_.out HW_.out (by kernel_rfl)) (fun _ _ _ h => h) (Or.inl ⟨by rfl, ?_⟩) hHeld ?_ ?_
                              rotate_left
                              · rintro w' ⟨s0, s1, s2, s3, s4, s5⟩
                                go_simp
                                with_reducible rfl
                              rotate_left
                              · simp only [Act.put, List.setIfInBounds_toArray, List.set_cons_zero, List.set_cons_succ, i64_w, i32_w]
                                rfl
                              refine pure_ (i := 12) (N := some 34) (v := ?_) (a' := ?_) #[true, true, true, true, true, true, true, true, true, true, true, true, true, false, false, false, false] rfl rfl (any_of HT_.out (by kernel_rfl)) (fun _ _ _ h => h) (Or.inl ⟨by rfl, ?_⟩) ?_ ?_
                              rotate_left
                              · intro w'
                                go_simp
                                with_reducible rfl
                              rotate_left
                              · simp only [Act.put, List.setIfInBounds_toArray, List.set_cons_zero, List.set_cons_succ, i64_w, i32_w]
                                rfl
                              refine take_ (i := 13) (N := some 35) (v := ?_) (a' := ?_) #[true, true, true, true, true, true, true, true, true, true, true, true, true, true, false, false, false] rfl rfl (take_ofW HT_.out HW_.out (by kernel_rfl)) (fun _ _ _ h => h) (Or.inl ⟨by rfl, ?_⟩) hHeld ?_ ?_
                              rotate_left
                              · rintro w' ⟨s0, s1, s2, s3, s4, s5⟩
                                go_simp
                                with_reducible rfl
                              rotate_left
                              · simp only [Act.put, List.setIfInBounds_toArray, List.set_cons_zero, List.set_cons_succ, i64_w, i32_w]
                                rfl
                              refine one_ (i := 14) (N := some 36) #[true, true, true, true, true, true, true, true, true, true, true, true, true, true, true, false, false] rfl rfl (one_of HT_.out (by kernel_rfl)) (by decide) (fun K hK => ?_)
                              refine goes_ Try.func152 (by kernel_rfl) rfl #[.string ((rd_T89 l0 x15_1).f0), .int .i64 (rd x7_1 ((rd_T89 l0 x15_1).f1)), .int .i64 (rd x7_1 ((rd_T89 l0 x15_1).f2))] (by rfl) rfl rfl (by (try simp only [List.map_toArray, List.map_cons, List.map_nil]); first | done | rfl | (simp only [List.length_drop, List.length_take]; rfl)) ?_
                              with_reducible refine (impl_apply.calls ((rd_T89 l0 x15_1).f0) (rd x7_1 ((rd_T89 l0 x15_1).f1)) (rd x7_1 ((rd_T89 l0 x15_1).f2)) t649 _ A37.out).mono ?_
                              rintro e w' ⟨rfl, ⟨nd, rfl⟩⟩
                              refine ⟨_, rfl, ?_⟩
                              have p39 : 0 ≤ (x15_1 : Int) := of_decide_eq_true (by first | (with_reducible assumption) | assumption)
                              have q39 : (x15_1 : Int) < ((x7_1.length : Int) : Int) := of_decide_eq_true (by first | (with_reducible assumption) | assumption)
                              obtain ⟨go39, co39, eo39, gb39, gl39, cl39, HG39⟩ := Kd.R_form HO_7.out (by omega)
                              (first | cases eo39 | (injection eo39 with ea_ en_ ec_; (first | subst ea_ | (injection ea_ with ea_; subst ea_)); subst ec_; clear en_))
                              have GB39 := Aside0.mk gb39
                              have GG39 := Aside0.mk HG39
                              clear gb39 gl39 HG39
                              (first | simp only [add_plain] at hx647_0 | skip)
                              (first | simp only [add_plain] at hx648_0 | skip)
                              obtain ⟨hx39_0, hf39_0⟩ := Kd.R_celln 0 HO_7.out (x15_1 : Int) p39 q39
                              replace p39 := eq_true p39
                              replace q39 := eq_true q39
                              have HP45 := Kd.R_putn HO_7.out (x15_1 : Int) t649
                              rw [← Ny650.out] at HP45
                              have HQ45 := Aside0.mk HP45
                              clear HP45
                              refine hK.out _ _ ⟨(blk_cell BK640.out 0).trans rfl, (blk_cell BK640.out 1).trans rfl, (blk_cell BK640.out 2).trans rfl, (blk_cell BK640.out 3).trans rfl, hHeld.2.2.2.2.1, hHeld.2.2.2.2.2⟩ (fun hHeld => ?_)
                              clear hK K
                              refine norm_ (a' := ?_) ?_ ?_
                              rotate_left
                              · show Act.put _ (some 36) _ = _
                                simp only [Act.put, List.setIfInBounds_toArray, List.set_cons_zero, List.set_cons_succ, i64_w, i32_w]
                                rfl
                              refine pure_ (i := 15) (N := some 37) (v := ?_) (a' := ?_) #[true, true, true, true, true, true, true, true, true, true, true, true, true, true, true, true, false] rfl rfl (any_of HT_.out (by kernel_rfl)) (fun _ _ _ h => h) (Or.inl ⟨by rfl, ?_⟩) ?_ ?_
                              rotate_left
                              · intro w'
                                go_simp
                                with_reducible rfl
                              rotate_left
                              · simp only [Act.put, List.setIfInBounds_toArray, List.set_cons_zero, List.set_cons_succ, i64_w, i32_w]
                                rfl
                              refine last_ (i := 16) (N := none) #[true, true, true, true, true, true, true, true, true, true, true, true, true, true, true, true, true] rfl rfl (one_of HT_.out (by kernel_rfl)) (by decide) (fun K hK => ?_)
                              refine skip_ (w1 := ?_) (by rfl) rfl ?_ ?_
                              rotate_left
                              · go_simp
                                rfl
                              refine hK.out _ _ ?_
                              clear hK K
                              refine done_ (done_of HT_.out (by kernel_rfl)) ?_
                              try go_wp2
                              go_roundg k1
                              case measure => have := HK1.out; omega
                              case rel => exact ⟨(y650), (wrap64 (x15_1 + 1)), (by first | rfl | (simp; done) | (simp [*]; done)), H', ⟨by have := HK1.out; omega⟩, ⟨by (with_reducible repeat (first | apply Kd.R_alloc | apply Kd.R_drewN | apply Kd.R_drew)); exact HQ45.out⟩, ⟨by repeat (first | (with_reducible first | exact HB.out | apply below_alloc | apply pw_below_drewN | apply below_drew1 | refine below_set ?_ GB39.out | refine below_set ?_ GE640.out) | exact HB.out)⟩⟩
                            · rw [if_neg c38] at H
                              exact absurd H (by simp)
                          · rw [if_neg c36] at H
                            exact absurd H (by simp)
                        · rw [if_neg c35] at H
                          exact absurd H (by simp)
                      · rw [if_neg c34] at H
                        exact absurd H (by simp)
                    · rw [if_neg c33] at H
                      exact absurd H (by simp)
              · rw [if_neg c10] at H
                exact absurd H (by simp)
            · rw [if_neg c9] at H
              exact absurd H (by simp)
          · rw [if_neg c8] at H
            have c8b0 : decide (x15_1 < (l0.length : Int)) = false := decide_eq_false c8
            clear c8
            obtain rfl := Option.some.inj H
            go_wp2
            go_ret
            exact ⟨_, by first | rfl | (simp [errW_none, errW_some] <;> rfl) | (simp [*, errW_none, errW_some] <;> rfl), by (with_reducible repeat (first | apply Kd.R_alloc | apply Kd.R_drewN | apply Kd.R_drew)); exact HO_7.out, by repeat (first | (with_reducible first | exact HB.out | apply below_alloc | apply pw_below_drewN | apply below_drew1) | exact HB.out)⟩
    · rw [if_neg c5] at H
      exact absurd H (by simp)
  · rw [if_neg c4] at H
    exact absurd H (by simp)

end Go.Proofs.Ytaddadknmipfeaa.F
