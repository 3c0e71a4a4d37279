/- Contracts: impl_values. -/
import Derived.Test.YtamahlhoainocaaFK
import Derived.Test.YtamahlhoainocaaFSpecExApply
namespace Go.Proofs.Ytamahlhoainocaa.F
open Go.RowKit Go.Proofs.YtamahlhoainocaaW.PrintWords Go.Proofs.YtamahlhoainocaaW.PrintLast Go.Proofs.YtamahlhoainocaaW.PrintMore
attribute [local go_sem] max2_int min2_int max_two min_two max_three min_three max_four min_four   -- for this text's walks alone
set_option linter.unusedVariables false
set_option linter.unusedSimpArgs false

/-! ### impl_values: function 153 -/
def impl_values.l0 : Nat → Int → Int → List Int → List (S83) → Int → Int → Option (List Int)
  | 0, _, _, _, _, _, _ => none
  | k + 1, x1, x2, x7, x13, x14, x15 => if x15 < x14 then (if 0 ≤ x15 then (if x15 < (x13.length : Int) then (if ((rd_T83 x13 x15).f0).toList = ([105, 110] : List UInt8) then ((some (([x1, x2] : List Int) : List Int)).bind fun y831 => (if 0 ≤ ((rd_T83 x13 x15).f3) then (if ((rd_T83 x13 x15).f3) < (y831.length : Int) then (if x15 < (x7.length : Int) then (impl_values.l0 k x1 x2 (x7.set (x15 : Int).toNat (rd y831 ((rd_T83 x13 x15).f3))) x13 x14 (wrap64 (x15 + 1))) else (none)) else (none)) else (none))) else (if ((rd_T83 x13 x15).f0).toList = ([99, 111, 110, 115, 116] : List UInt8) then (if x15 < (x7.length : Int) then (impl_values.l0 k x1 x2 (x7.set (x15 : Int).toNat ((rd_T83 x13 x15).f3)) x13 x14 (wrap64 (x15 + 1))) else (none)) else (if 0 ≤ ((rd_T83 x13 x15).f1) then (if ((rd_T83 x13 x15).f1) < (x7.length : Int) then (if 0 ≤ ((rd_T83 x13 x15).f2) then (if ((rd_T83 x13 x15).f2) < (x7.length : Int) then ((impl_apply.f ((rd_T83 x13 x15).f0) (rd x7 ((rd_T83 x13 x15).f1)) (rd x7 ((rd_T83 x13 x15).f2))).bind fun t839 => (if x15 < (x7.length : Int) then (impl_values.l0 k x1 x2 (x7.set (x15 : Int).toNat t839) x13 x14 (wrap64 (x15 + 1))) else (none))) else (none)) else (none)) else (none)) else (none)))) else (none)) else (none)) else (some x7)
def impl_values.f (k : Nat) (l0 : List (S83)) (a1 : Int) (a2 : Int) : Option (List Int) := if 0 ≤ (l0.length : Int) then (if ((l0.length : Int) : Int).toNat ≤ 35184372088832 then (impl_values.l0 k a1 a2 (List.replicate ((l0.length : Int) : Int).toNat 0) l0 (l0.length : Int) 0) else (none)) else (none)
theorem impl_values.mono_l : ∀ k, (∀ y0 y1 y2 y3 y4 y5, LeO (impl_values.l0 k y0 y1 y2 y3 y4 y5) (impl_values.l0 (k + 1) y0 y1 y2 y3 y4 y5))
  | 0 => fun _ _ _ _ _ _ r h => by simp [impl_values.l0] at h
  | k + 1 => by
    have ih0 := impl_values.mono_l k
    · intro y0 y1 y2 y3 y4 y5
      unfold impl_values.l0
      repeat' first
      | (with_reducible exact ih0 _ _ _ _ _ _)
      | (with_reducible exact LeO.refl _)
      | (with_reducible exact LeO.none _)
      | (with_reducible refine LeO.ite ?_ ?_)
      | (with_reducible refine LeO.bind ?_ (fun _ => ?_))
      | exact ih0 _ _ _ _ _ _
      | exact LeO.none _
      | refine LeO.ite ?_ ?_
      | refine LeO.bind ?_ (fun _ => ?_)
theorem impl_values.mono : ∀ a0 a1 a2 k, LeO (impl_values.f k a0 a1 a2) (impl_values.f (k + 1) a0 a1 a2) := by
  intro a0 a1 a2 k
  have ih0 := impl_values.mono_l k
  unfold impl_values.f
  repeat' first
      | (with_reducible exact ih0 _ _ _ _ _ _)
      | (with_reducible exact LeO.refl _)
      | (with_reducible exact LeO.none _)
      | (with_reducible refine LeO.ite ?_ ?_)
      | (with_reducible refine LeO.bind ?_ (fun _ => ?_))
      | exact ih0 _ _ _ _ _ _
      | exact LeO.none _
      | refine LeO.ite ?_ ?_
      | refine LeO.bind ?_ (fun _ => ?_)
def impl_values.T6 : Bool × List (List Nat × List Nat) := (true, [([], []), ([], []), ([], []), ([2], [2]), ([], []), ([], []), ([5], [5]), ([4, 6], [4, 6]), ([7], [7]), ([], []), ([], []), ([10], [10]), ([9, 11], [9, 11]), ([12], [12]), ([3, 8, 13], [3, 8, 13]), ([0, 1, 0, 1, 2, 3, 4, 5, 6, 7, 8, 9, 10, 11, 12, 13, 14], [0, 1]), ([15, 14, 14, 0, 1, 2, 3, 4, 5, 6, 7, 8, 9, 10, 11, 12, 13, 14], [14, 15])])
def impl_values.B6 : List Nat := [0, 0, 0, 4, 0, 0, 32, 112, 240, 0, 0, 1024, 3584, 7680, 16380, 32767, 65535]
theorem impl_values.tab6 : rtab .any (opsOf Try.f153 6) = impl_values.T6 := by kernel_rfl
theorem impl_values.bits6 : waitsOk impl_values.T6.2 impl_values.B6 = true := by kernel_rfl
set_option maxHeartbeats 8000000 in
set_option maxRecDepth 100000 in
theorem impl_values.calls (k : Nat) (A0 : Option Addr) (c0 : Nat) (l0 : List (S83)) (a1 : Int) (a2 : Int) (r : List Int) (w : World) (hr0 : Kd.C k83 w A0 l0.length l0) (hc0 : l0.length ≤ c0) (h : impl_values.f k l0 a1 a2 = some r) :
    Calls Try.prog 153 #[.slice A0 l0.length c0, .int .i64 a1, .int .i64 a2] w fun e w' => ∃ v0_ : Value, e = .returned (v0_) ∧ Kd.R (Kd.int .i64) 3 w' w.heap.size (fun _ => True) v0_ r ∧ Below w.heap.size w w' := by
  have hu83 := Try.underlying83
  have HR0 := Aside0.mk hr0
  have HC0 := Aside0.mk hc0
  clear hr0 hc0
  have HB := Aside0.mk (Below.refl w.heap.size w)
  have H : (if 0 ≤ (l0.length : Int) then (if ((l0.length : Int) : Int).toNat ≤ 35184372088832 then (impl_values.l0 k a1 a2 (List.replicate ((l0.length : Int) : Int).toNat 0) l0 (l0.length : Int) 0) else (none)) else (none)) = some r := h
  clear h
  by_cases c4 : 0 ≤ (l0.length : Int)
  · rw [if_pos c4] at H
    have c4b0 := eq_true c4
    have c4b1 : decide (0 ≤ (l0.length : Int)) = true := decide_eq_true c4
    clear c4
    by_cases c5 : ((l0.length : Int) : Int).toNat ≤ 35184372088832
    · rw [if_pos c5] at H
      have c5b0 := eq_true c5
      have c5b1 : decide (((l0.length : Int) : Int).toNat ≤ 35184372088832) = true := decide_eq_true c5
      clear c5
      obtain ⟨y826, hy826⟩ : ∃ y_ : List Int, y_ = (List.replicate ((l0.length : Int) : Int).toNat 0) := ⟨_, rfl⟩
      replace H : (impl_values.l0 k a1 a2 y826 l0 (l0.length : Int) 0) = some r := by first | (rw [hy826]; with_reducible exact H) | (have H2_ := (Option.bind_some _ _).symm.trans H; rw [hy826]; with_reducible exact H2_) | (have H2_ := (Option.bind_some _ _).symm.trans H; with_reducible exact H2_) | with_reducible exact H | (rw [hy826]; exact H) | exact H
      have Ny826 := Aside0.mk hy826
      clear hy826
      have H' := Aside0.mk H
      clear H
      go_enter Try.func153, Try.ntmps153
      go_wp2_with (first | ((with_reducible refine gate_dst (N := 12) rfl ?_); refine Kd.R_make (Kd.int .i64) _ 3 rfl (N := 12) rfl 33 _ _ rfl (l0.length : Int) rfl rfl Try.underlying33 (.int .i64 0) 8 info3 rfl (by decide) (by omega) 0 (ok := fun _ => True) (okp := fun _ => True) rfl (fun _ hk => hk) trivial (of_decide_eq_true (by first | (with_reducible assumption) | assumption)) (Nat.le_trans (Nat.mul_le_mul_right _ (of_decide_eq_true (by first | (with_reducible assumption) | assumption) : (l0.length : Int).toNat ≤ 35184372088832)) (by omega)) (Below.refl _ _) (Nat.le_refl _) ?_; intro v827 w6 ho7 hb hg_ hnew_; clear hg_ hnew_; (first | rw [← Ny826.out] at ho7 | (simp only [Int.reduceToNat] at ho7; rw [← Ny826.out] at ho7)); have n0_ := Aside0.mk (Kd.R_lower ho7 (below_size (by repeat (first | (with_reducible first | exact HB.out | apply below_alloc | apply pw_below_drewN | apply below_drew1) | exact HB.out)))); have n1_ := Aside0.mk (below_step (by repeat (first | (with_reducible first | exact HB.out | apply below_alloc | apply pw_below_drewN | apply below_drew1) | exact HB.out)) hb); clear HB; have HO828 := n0_; have HB := n1_; clear n0_ n1_; clear hb ho7))
      go_loopg [15] k (fun kq v15 w' => ∃ (x7_1 : List Int) (x15_1 : Int), v15 = .int .i64 x15_1 ∧ Aside0 (impl_values.l0 kq a1 a2 x7_1 l0 (l0.length : Int) x15_1 = some r) ∧ Aside0 (kq ≤ k) ∧ Aside0 (Kd.R (Kd.int .i64) 3 w' w.heap.size (fun _ => True) v827 x7_1) ∧ Aside0 (Below w.heap.size w w'))
      case atStart => exact ⟨(y826), (0), (by first | rfl | (simp; done) | (simp [*]; done)), H', ⟨Nat.le_refl _⟩, ⟨by (with_reducible repeat (first | apply Kd.R_alloc | apply Kd.R_drewN | apply Kd.R_drew)); exact HO828.out⟩, ⟨by repeat (first | (with_reducible first | exact HB.out | apply below_alloc | apply pw_below_drewN | apply below_drew1) | exact HB.out)⟩⟩
      case round =>
        clear H'
        try clear c1
        try clear p2
        try clear c4
        try clear c4b0
        try clear c4b1
        try clear c5
        try clear c5b0
        try clear c5b1
        obtain ⟨x7_1, x15_1, rfl, HA, HK1, HO_7, HB⟩ := hrel
        cases gk with
        | zero => exact absurd HA.out (by simp [impl_values.l0])
        | succ k1 =>
          have H := HA.out
          clear HA
          simp only [impl_values.l0] at H
          by_cases c8 : x15_1 < (l0.length : Int)
          · rw [if_pos c8] at H
            have c8b0 : decide (x15_1 < (l0.length : Int)) = true := decide_eq_true c8
            clear c8
            by_cases c9 : 0 ≤ x15_1
            · rw [if_pos c9] at H
              have c9b0 : decide (0 ≤ x15_1) = true := decide_eq_true c9
              clear c9
              by_cases c10 : x15_1 < (l0.length : Int)
              · rw [if_pos c10] at H
                have c10b0 : decide (x15_1 < (l0.length : Int)) = true := decide_eq_true c10
                clear c10
                by_cases c11 : ((rd_T83 l0 x15_1).f0).toList = ([105, 110] : List UInt8)
                · rw [if_pos c11] at H
                  have c11b0 : (((rd_T83 l0 x15_1).f0).toList == ([105, 110] : List UInt8)) = true := beq_iff_eq.mpr c11
                  have c11b1 : (((rd_T83 l0 x15_1).f0).toList != ([105, 110] : List UInt8)) = false := bne_eq_false_iff_eq.mpr c11
                  clear c11
                  obtain ⟨y831, hy831⟩ : ∃ y_ : List Int, y_ = (([a1, a2] : List Int)) := ⟨_, rfl⟩
                  replace H : (if 0 ≤ ((rd_T83 l0 x15_1).f3) then (if ((rd_T83 l0 x15_1).f3) < (y831.length : Int) then (if x15_1 < (x7_1.length : Int) then (impl_values.l0 k1 a1 a2 (x7_1.set (x15_1 : Int).toNat (rd y831 ((rd_T83 l0 x15_1).f3))) l0 (l0.length : Int) (wrap64 (x15_1 + 1))) else (none)) else (none)) else (none)) = some r := by first | (rw [hy831]; with_reducible exact H) | (have H2_ := (Option.bind_some _ _).symm.trans H; rw [hy831]; with_reducible exact H2_) | (have H2_ := (Option.bind_some _ _).symm.trans H; with_reducible exact H2_) | with_reducible exact H | (rw [hy831]; exact H) | exact H
                  have Ny831 := Aside0.mk hy831
                  clear hy831
                  by_cases c12 : 0 ≤ ((rd_T83 l0 x15_1).f3)
                  · rw [if_pos c12] at H
                    have c12b0 : decide (0 ≤ ((rd_T83 l0 x15_1).f3)) = true := decide_eq_true c12
                    clear c12
                    by_cases c13 : ((rd_T83 l0 x15_1).f3) < (y831.length : Int)
                    · rw [if_pos c13] at H
                      have c13b0 : decide (((rd_T83 l0 x15_1).f3) < (y831.length : Int)) = true := decide_eq_true c13
                      clear c13
                      by_cases c14 : x15_1 < (x7_1.length : Int)
                      · rw [if_pos c14] at H
                        have c14b0 : decide (x15_1 < (x7_1.length : Int)) = true := decide_eq_true c14
                        clear c14
                        obtain ⟨y835, hy835⟩ : ∃ y_ : List Int, y_ = (x7_1.set (x15_1 : Int).toNat (rd y831 ((rd_T83 l0 x15_1).f3))) := ⟨_, rfl⟩
                        replace H : (impl_values.l0 k1 a1 a2 y835 l0 (l0.length : Int) (wrap64 (x15_1 + 1))) = some r := by first | (rw [hy835]; with_reducible exact H) | (have H2_ := (Option.bind_some _ _).symm.trans H; rw [hy835]; with_reducible exact H2_) | (have H2_ := (Option.bind_some _ _).symm.trans H; with_reducible exact H2_) | with_reducible exact H | (rw [hy835]; exact H) | exact H
                        have Ny835 := Aside0.mk hy835
                        clear hy835
                        have H' := Aside0.mk H
                        clear H
                        have p829 : 0 ≤ (x15_1 : Int) := of_decide_eq_true (by first | (with_reducible assumption) | assumption)
                        have q829 : x15_1 < (l0.length : Int) := of_decide_eq_true (by first | (with_reducible assumption) | assumption)
                        obtain ⟨ad829, e829, hx829_0, hx829_1, hx829_2, hx829_3⟩ := at_T83 HR0.out x15_1 p829 q829
                        cases e829
                        replace hx829_0 := (HB.out.cell (World.block_lt_of_cell? w _ hx829_0)).trans hx829_0
                        replace hx829_1 := (HB.out.cell (World.block_lt_of_cell? w _ hx829_1)).trans hx829_1
                        replace hx829_2 := (HB.out.cell (World.block_lt_of_cell? w _ hx829_2)).trans hx829_2
                        replace hx829_3 := (HB.out.cell (World.block_lt_of_cell? w _ hx829_3)).trans hx829_3
                        replace p829 := eq_true p829
                        replace q829 := eq_true q829
                        go_wp2_with (first | ((with_reducible refine gate_dst (N := 9) rfl ?_); refine box_event ?hg (N := 9) ?hd (cs := #[.string (⟨#[]⟩ : ByteArray), .int .i64 0, .int .i64 0, .int .i64 0]) (t := 83) ?hr ?_; (case hd => rfl); (case hg => rfl); (case hr => first | (go_simp; done) | (go_simp; rfl)); intro gb830 hg w16 hbox hb; have n0_ := Aside0.mk (Kd.R_below (by (with_reducible repeat (first | apply Kd.R_alloc | apply Kd.R_drewN | apply Kd.R_drew)); exact HO_7.out) hb); have n1_ := Aside0.mk (below_step (by repeat (first | (with_reducible first | exact HB.out | apply below_alloc | apply pw_below_drewN | apply below_drew1) | exact HB.out)) hb); have n2_ := Aside0.mk (hbox); have n3_ := Aside0.mk ((by rw [hg]; exact (below_size (by repeat (first | (with_reducible first | exact HB.out | apply below_alloc | apply pw_below_drewN | apply below_drew1) | exact HB.out))) : w.heap.size ≤ gb830)); have n4_ := Aside0.mk ((by rw [hg]; exact (below_size (by repeat (first | (with_reducible first | exact HB.out | apply below_alloc | apply pw_below_drewN | apply below_drew1) | exact HB.out))) : w.heap.size ≤ gb830)); clear HO_7; clear HB; have HO_7 := n0_; have HB := n1_; have BK830 := n2_; have GW830 := n3_; have GE830 := n4_; clear n0_ n1_ n2_ n3_ n4_; clear hb hbox hg; have hcz17_0 : w16.cell? ⟨gb830, 0, none⟩ = some (.string (⟨#[]⟩ : ByteArray)) := (blk_cell BK830.out 0).trans rfl; have hcz17_1 : w16.cell? ⟨gb830, 1, none⟩ = some (.int .i64 0) := (blk_cell BK830.out 1).trans rfl; have hcz17_2 : w16.cell? ⟨gb830, 2, none⟩ = some (.int .i64 0) := (blk_cell BK830.out 2).trans rfl; have hcz17_3 : w16.cell? ⟨gb830, 3, none⟩ = some (.int .i64 0) := (blk_cell BK830.out 3).trans rfl; have hfz17_0 := blk_frozen BK830.out 0; have hfz17_1 := blk_frozen BK830.out 1; have hfz17_2 := blk_frozen BK830.out 2; have hfz17_3 := blk_frozen BK830.out 3) | ((with_reducible refine gate_dst (N := 44) rfl ?_); refine Kd.R_lit (Kd.int .i64) _ 3 ?hg (N := 44) ?hd (xs := ([a1, a2] : List Int)) (inner := [.int .i64 a1, .int .i64 a2]) (ok := fun _ => True) (okp := fun _ => True) ?hr ?hp (fun _ hk => hk) trivial (Below.refl _ _) (Nat.le_refl _) (by simp) ?_; (case hd => rfl); (case hg => rfl); (case hr => first | (go_simp; done) | (go_simp; rfl)); (case hp => exact (Reps.one (show Kd.M (Kd.int .i64) _ _ _ a1 [.int .i64 a1] from rfl) (Reps.one (show Kd.M (Kd.int .i64) _ _ _ a2 [.int .i64 a2] from rfl) (Reps.none _ _)))); intro v832 w18 ho19 hb hg_ hnew_; clear hg_ hnew_; (first | rw [← Ny831.out] at ho19 | (simp only [Int.reduceToNat] at ho19; rw [← Ny831.out] at ho19)); have n0_ := Aside0.mk (Kd.R_elder' (by (with_reducible repeat (first | apply Kd.R_alloc | apply Kd.R_drewN | apply Kd.R_drew)); exact (Kd.R_mono (Kd.R_far (p := ⟨gb830, 3, none⟩) (Kd.R_far (p := ⟨gb830, 2, none⟩) (Kd.R_far (p := ⟨gb830, 1, none⟩) (Kd.R_far (p := ⟨gb830, 0, none⟩) (Kd.R_types HO_7.out BK830.out (by decide)) (fun _ hk => hk.2) (.string ((rd_T83 l0 x15_1).f0))) (fun _ hk => hk.2) (.int .i64 ((rd_T83 l0 x15_1).f1))) (fun _ hk => hk.2) (.int .i64 ((rd_T83 l0 x15_1).f2))) (fun _ hk => hk.2) (.int .i64 ((rd_T83 l0 x15_1).f3))) (fun _ h_ => h_.1))) (Kd.R_base ho19) hb); have n1_ := Aside0.mk (Kd.R_lower (Kd.R_new' ho19 (Kd.R_lt (by (with_reducible repeat (first | apply Kd.R_alloc | apply Kd.R_drewN | apply Kd.R_drew)); exact (Kd.R_mono (Kd.R_far (p := ⟨gb830, 3, none⟩) (Kd.R_far (p := ⟨gb830, 2, none⟩) (Kd.R_far (p := ⟨gb830, 1, none⟩) (Kd.R_far (p := ⟨gb830, 0, none⟩) (Kd.R_types HO_7.out BK830.out (by decide)) (fun _ hk => hk.2) (.string ((rd_T83 l0 x15_1).f0))) (fun _ hk => hk.2) (.int .i64 ((rd_T83 l0 x15_1).f1))) (fun _ hk => hk.2) (.int .i64 ((rd_T83 l0 x15_1).f2))) (fun _ hk => hk.2) (.int .i64 ((rd_T83 l0 x15_1).f3))) (fun _ h_ => h_.1))))) (below_size (by repeat (first | (with_reducible first | exact HB.out | apply below_alloc | apply pw_below_drewN | apply below_drew1 | refine below_set ?_ GE830.out) | exact HB.out)))); have n2_ := Aside0.mk (blk_below (g := gb830) (o := .cells #[.string ((rd_T83 l0 x15_1).f0), .int .i64 ((rd_T83 l0 x15_1).f1), .int .i64 ((rd_T83 l0 x15_1).f2), .int .i64 ((rd_T83 l0 x15_1).f3)] 83 (0, 0)) (by (with_reducible repeat (first | refine blk_drewN ?_ _ | refine blk_drew ?_ | refine blk_alloc ?_ _)); refine blk_put (cs := #[.string ((rd_T83 l0 x15_1).f0), .int .i64 ((rd_T83 l0 x15_1).f1), .int .i64 ((rd_T83 l0 x15_1).f2), .int .i64 0]) ?_ 3 _ rfl; (with_reducible repeat (first | refine blk_drewN ?_ _ | refine blk_drew ?_ | refine blk_alloc ?_ _)); refine blk_put (cs := #[.string ((rd_T83 l0 x15_1).f0), .int .i64 ((rd_T83 l0 x15_1).f1), .int .i64 0, .int .i64 0]) ?_ 2 _ rfl; (with_reducible repeat (first | refine blk_drewN ?_ _ | refine blk_drew ?_ | refine blk_alloc ?_ _)); refine blk_put (cs := #[.string ((rd_T83 l0 x15_1).f0), .int .i64 0, .int .i64 0, .int .i64 0]) ?_ 1 _ rfl; (with_reducible repeat (first | refine blk_drewN ?_ _ | refine blk_drew ?_ | refine blk_alloc ?_ _)); refine blk_put (cs := #[.string (⟨#[]⟩ : ByteArray), .int .i64 0, .int .i64 0, .int .i64 0]) ?_ 0 _ rfl; (with_reducible repeat (first | refine blk_drewN ?_ _ | refine blk_drew ?_ | refine blk_alloc ?_ _)); exact BK830.out) hb); have n3_ := Aside0.mk (below_step (by repeat (first | (with_reducible first | exact HB.out | apply below_alloc | apply pw_below_drewN | apply below_drew1 | refine below_set ?_ GE830.out) | exact HB.out)) hb); clear HO_7; clear BK830; clear HB; have HO_7 := n0_; have HO833 := n1_; have BK830 := n2_; have HB := n3_; clear n0_ n1_ n2_ n3_; clear hb ho19; have hcz20_0 : w18.cell? ⟨gb830, 0, none⟩ = some (.string ((rd_T83 l0 x15_1).f0)) := (blk_cell BK830.out 0).trans rfl; have hcz20_1 : w18.cell? ⟨gb830, 1, none⟩ = some (.int .i64 ((rd_T83 l0 x15_1).f1)) := (blk_cell BK830.out 1).trans rfl; have hcz20_2 : w18.cell? ⟨gb830, 2, none⟩ = some (.int .i64 ((rd_T83 l0 x15_1).f2)) := (blk_cell BK830.out 2).trans rfl; have hcz20_3 : w18.cell? ⟨gb830, 3, none⟩ = some (.int .i64 ((rd_T83 l0 x15_1).f3)) := (blk_cell BK830.out 3).trans rfl; have hfz20_0 := blk_frozen BK830.out 0; have hfz20_1 := blk_frozen BK830.out 1; have hfz20_2 := blk_frozen BK830.out 2; have hfz20_3 := blk_frozen BK830.out 3; obtain ⟨Ao21, co21, eo21⟩ := Kd.R_slice HO833.out; subst eo21; have p834 : 0 ≤ (((rd_T83 l0 x15_1).f3) : Int) := of_decide_eq_true (by first | (with_reducible assumption) | assumption); have q834 : ((rd_T83 l0 x15_1).f3) < (y831.length : Int) := of_decide_eq_true (by first | (with_reducible assumption) | assumption); obtain ⟨ad834, e834, hx834_0⟩ := Kd.at_int (Kd.R_reads' HO833.out).2.2 ((rd_T83 l0 x15_1).f3) p834 q834; cases e834; replace p834 := eq_true p834; replace q834 := eq_true q834; have p15 : 0 ≤ (x15_1 : Int) := of_decide_eq_true (by first | (with_reducible assumption) | assumption); have q15 : (x15_1 : Int) < ((x7_1.length : Int) : Int) := of_decide_eq_true (by first | (with_reducible assumption) | assumption); obtain ⟨go15, co15, eo15, gb15, gl15, cl15, HG15⟩ := Kd.R_form HO_7.out (by omega); (first | cases eo15 | (injection eo15 with ea_ en_ ec_; (first | subst ea_ | (injection ea_ with ea_; subst ea_)); subst ec_; clear en_)); have GB15 := Aside0.mk gb15; have GG15 := Aside0.mk HG15; clear gb15 gl15 HG15; obtain ⟨hx15_0, hf15_0⟩ := Kd.R_celln 0 HO_7.out (x15_1 : Int) p15 q15; replace p15 := eq_true p15; replace q15 := eq_true q15; have n_ := Aside0.mk (Kd.R_mono (ok' := (fun k_ => some k_ ≠ (.slice (some ad834) y831.length co21 : Value).ownBlock)) HO_7.out (fun k_ hk => hk.2)); clear HO_7; have HO_7 := n_; clear n_; obtain ⟨hy22_, hz22_⟩ := Kd.R_celln 0 HO_7.out (x15_1 : Int) (of_decide_eq_true (by first | (with_reducible assumption) | assumption)) (of_decide_eq_true (by first | (with_reducible assumption) | assumption)); have HP22 := Kd.R_putg HO_7.out (x15_1 : Int) (rd y831 ((rd_T83 l0 x15_1).f3))) | ((with_reducible refine gate_store (t := 3) (p := 49) rfl ?_); refine store_event (t := 3) (p := 49) (v := ?vo_w23) (w1 := (w18.setCell ⟨go15, (x15_1 : Int).toNat, none⟩ (.int .i64 (rd y831 ((rd_T83 l0 x15_1).f3))))) ?hg ?ho ?hn ?hr ?_; (case ho => rfl); (case hg => rfl); (case hn => rfl); (case hr => first | (go_simp; done) | (go_simp; rfl)); intro w23 hw; have hg : w18.grownBy w23 (some go15) := (by rw [hw]; exact HP22.2); have hp_ : Kd.R (Kd.int .i64) 3 w23 w.heap.size (fun k_ => some k_ ≠ (.slice (some ad834) y831.length co21 : Value).ownBlock) (.slice (some ⟨go15, 0, none⟩) x7_1.length co15) y835 := (by rw [hw, Ny835.out]; exact HP22.1); clear HP22; have n0_ := Aside0.mk (hp_); have n1_ := Aside0.mk (blk_grown (g := gb830) (o := .cells #[.string ((rd_T83 l0 x15_1).f0), .int .i64 ((rd_T83 l0 x15_1).f1), .int .i64 ((rd_T83 l0 x15_1).f2), .int .i64 ((rd_T83 l0 x15_1).f3)] 83 (0, 0)) (by (with_reducible repeat (first | refine blk_drewN ?_ _ | refine blk_drew ?_ | refine blk_alloc ?_ _)); exact BK830.out) hg (Kd.R_ne HO_7.out BK830.out (by decide))); have n2_ := Aside0.mk (Kd.R_after (v := (.slice (some ⟨go15, 0, none⟩) x7_1.length co15)) (v1 := (.slice (some ⟨go15, 0, none⟩) x7_1.length co15)) (ok := (fun _ => True)) (by (with_reducible repeat (first | apply Kd.R_alloc | apply Kd.R_drewN | apply Kd.R_drew)); exact HO833.out) hg (.inl rfl)); have n3_ := Aside0.mk ((by rw [hw]; exact below_set (HB.out) GB15.out : Below w.heap.size w w23)); clear HO_7; clear BK830; clear HO833; clear HB; have HO_7 := n0_; have BK830 := n1_; have HO833 := n2_; have HB := n3_; clear n0_ n1_ n2_ n3_; clear hg hw hp_))
                        go_roundg k1
                        case measure => have := HK1.out; omega
                        case rel => exact ⟨(y835), (wrap64 (x15_1 + 1)), (by first | rfl | (simp; done) | (simp [*]; done)), H', ⟨by have := HK1.out; omega⟩, ⟨by (with_reducible repeat (first | apply Kd.R_alloc | apply Kd.R_drewN | apply Kd.R_drew)); exact Kd.R_mono HO_7.out (fun _ hk => trivial)⟩, ⟨by repeat (first | (with_reducible first | exact HB.out | apply below_alloc | apply pw_below_drewN | apply below_drew1 | refine below_set ?_ GE830.out) | exact HB.out)⟩⟩
                      · rw [if_neg c14] at H
                        exact absurd H (by simp)
                    · rw [if_neg c13] at H
                      exact absurd H (by simp)
                  · rw [if_neg c12] at H
                    exact absurd H (by simp)
                · rw [if_neg c11] at H
                  have c11b0 : (((rd_T83 l0 x15_1).f0).toList == ([105, 110] : List UInt8)) = false := beq_eq_false_iff_ne.mpr c11
                  have c11b1 : (((rd_T83 l0 x15_1).f0).toList != ([105, 110] : List UInt8)) = true := bne_iff_ne.mpr c11
                  by_cases c24 : ((rd_T83 l0 x15_1).f0).toList = ([99, 111, 110, 115, 116] : List UInt8)
                  · rw [if_pos c24] at H
                    have c24b0 : (((rd_T83 l0 x15_1).f0).toList == ([99, 111, 110, 115, 116] : List UInt8)) = true := beq_iff_eq.mpr c24
                    have c24b1 : (((rd_T83 l0 x15_1).f0).toList != ([99, 111, 110, 115, 116] : List UInt8)) = false := bne_eq_false_iff_eq.mpr c24
                    clear c24
                    by_cases c25 : x15_1 < (x7_1.length : Int)
                    · rw [if_pos c25] at H
                      have c25b0 : decide (x15_1 < (x7_1.length : Int)) = true := decide_eq_true c25
                      clear c25
                      obtain ⟨y836, hy836⟩ : ∃ y_ : List Int, y_ = (x7_1.set (x15_1 : Int).toNat ((rd_T83 l0 x15_1).f3)) := ⟨_, rfl⟩
                      replace H : (impl_values.l0 k1 a1 a2 y836 l0 (l0.length : Int) (wrap64 (x15_1 + 1))) = some r := by first | (rw [hy836]; with_reducible exact H) | (have H2_ := (Option.bind_some _ _).symm.trans H; rw [hy836]; with_reducible exact H2_) | (have H2_ := (Option.bind_some _ _).symm.trans H; with_reducible exact H2_) | with_reducible exact H | (rw [hy836]; exact H) | exact H
                      have Ny836 := Aside0.mk hy836
                      clear hy836
                      have H' := Aside0.mk H
                      clear H
                      have p829 : 0 ≤ (x15_1 : Int) := of_decide_eq_true (by first | (with_reducible assumption) | assumption)
                      have q829 : x15_1 < (l0.length : Int) := of_decide_eq_true (by first | (with_reducible assumption) | assumption)
                      obtain ⟨ad829, e829, hx829_0, hx829_1, hx829_2, hx829_3⟩ := at_T83 HR0.out x15_1 p829 q829
                      cases e829
                      replace hx829_0 := (HB.out.cell (World.block_lt_of_cell? w _ hx829_0)).trans hx829_0
                      replace hx829_1 := (HB.out.cell (World.block_lt_of_cell? w _ hx829_1)).trans hx829_1
                      replace hx829_2 := (HB.out.cell (World.block_lt_of_cell? w _ hx829_2)).trans hx829_2
                      replace hx829_3 := (HB.out.cell (World.block_lt_of_cell? w _ hx829_3)).trans hx829_3
                      replace p829 := eq_true p829
                      replace q829 := eq_true q829
                      go_wp2_with (first | ((with_reducible refine gate_dst (N := 9) rfl ?_); refine box_event ?hg (N := 9) ?hd (cs := #[.string (⟨#[]⟩ : ByteArray), .int .i64 0, .int .i64 0, .int .i64 0]) (t := 83) ?hr ?_; (case hd => rfl); (case hg => rfl); (case hr => first | (go_simp; done) | (go_simp; rfl)); intro gb830 hg w27 hbox hb; have n0_ := Aside0.mk (Kd.R_below (by (with_reducible repeat (first | apply Kd.R_alloc | apply Kd.R_drewN | apply Kd.R_drew)); exact HO_7.out) hb); have n1_ := Aside0.mk (below_step (by repeat (first | (with_reducible first | exact HB.out | apply below_alloc | apply pw_below_drewN | apply below_drew1) | exact HB.out)) hb); have n2_ := Aside0.mk (hbox); have n3_ := Aside0.mk ((by rw [hg]; exact (below_size (by repeat (first | (with_reducible first | exact HB.out | apply below_alloc | apply pw_below_drewN | apply below_drew1) | exact HB.out))) : w.heap.size ≤ gb830)); have n4_ := Aside0.mk ((by rw [hg]; exact (below_size (by repeat (first | (with_reducible first | exact HB.out | apply below_alloc | apply pw_below_drewN | apply below_drew1) | exact HB.out))) : w.heap.size ≤ gb830)); clear HO_7; clear HB; have HO_7 := n0_; have HB := n1_; have BK830 := n2_; have GW830 := n3_; have GE830 := n4_; clear n0_ n1_ n2_ n3_ n4_; clear hb hbox hg; have hcz28_0 : w27.cell? ⟨gb830, 0, none⟩ = some (.string (⟨#[]⟩ : ByteArray)) := (blk_cell BK830.out 0).trans rfl; have hcz28_1 : w27.cell? ⟨gb830, 1, none⟩ = some (.int .i64 0) := (blk_cell BK830.out 1).trans rfl; have hcz28_2 : w27.cell? ⟨gb830, 2, none⟩ = some (.int .i64 0) := (blk_cell BK830.out 2).trans rfl; have hcz28_3 : w27.cell? ⟨gb830, 3, none⟩ = some (.int .i64 0) := (blk_cell BK830.out 3).trans rfl; have hfz28_0 := blk_frozen BK830.out 0; have hfz28_1 := blk_frozen BK830.out 1; have hfz28_2 := blk_frozen BK830.out 2; have hfz28_3 := blk_frozen BK830.out 3) | ((with_reducible refine gate_store (t := 83) (p := 9) rfl ?_); refine store_event (t := 83) (p := 9) (v := ?vo_w29) (w1 := ((((w27.setCell ⟨gb830, 0, none⟩ (.string ((rd_T83 l0 x15_1).f0))).setCell ⟨gb830, 1, none⟩ (.int .i64 ((rd_T83 l0 x15_1).f1))).setCell ⟨gb830, 2, none⟩ (.int .i64 ((rd_T83 l0 x15_1).f2))).setCell ⟨gb830, 3, none⟩ (.int .i64 ((rd_T83 l0 x15_1).f3)))) ?hg ?ho ?hn ?hr ?_; (case ho => rfl); (case hg => rfl); (case hn => rfl); (case hr => first | (go_simp; done) | (go_simp; rfl)); intro w29 hw; have n0_ : Aside0 (Kd.R (Kd.int .i64) 3 w29 w.heap.size (fun _ => True) v827 x7_1) := ⟨(by rw [hw]; exact (by (with_reducible repeat (first | apply Kd.R_alloc | apply Kd.R_drewN | apply Kd.R_drew)); exact Kd.R_mono (Kd.R_far (p := ⟨gb830, 3, none⟩) (Kd.R_far (p := ⟨gb830, 2, none⟩) (Kd.R_far (p := ⟨gb830, 1, none⟩) (Kd.R_far (p := ⟨gb830, 0, none⟩) (Kd.R_types HO_7.out BK830.out (by decide)) (fun _ hk => hk.2) (.string ((rd_T83 l0 x15_1).f0))) (fun _ hk => hk.2) (.int .i64 ((rd_T83 l0 x15_1).f1))) (fun _ hk => hk.2) (.int .i64 ((rd_T83 l0 x15_1).f2))) (fun _ hk => hk.2) (.int .i64 ((rd_T83 l0 x15_1).f3))) (fun _ hk => trivial)))⟩; have n1_ : Aside0 (w29.heap[gb830]? = some (.cells #[.string ((rd_T83 l0 x15_1).f0), .int .i64 ((rd_T83 l0 x15_1).f1), .int .i64 ((rd_T83 l0 x15_1).f2), .int .i64 ((rd_T83 l0 x15_1).f3)] 83 (0, 0))) := ⟨(by rw [hw]; exact (by (with_reducible repeat (first | refine blk_drewN ?_ _ | refine blk_drew ?_ | refine blk_alloc ?_ _)); refine blk_put (cs := #[.string ((rd_T83 l0 x15_1).f0), .int .i64 ((rd_T83 l0 x15_1).f1), .int .i64 ((rd_T83 l0 x15_1).f2), .int .i64 0]) ?_ 3 _ rfl; (with_reducible repeat (first | refine blk_drewN ?_ _ | refine blk_drew ?_ | refine blk_alloc ?_ _)); refine blk_put (cs := #[.string ((rd_T83 l0 x15_1).f0), .int .i64 ((rd_T83 l0 x15_1).f1), .int .i64 0, .int .i64 0]) ?_ 2 _ rfl; (with_reducible repeat (first | refine blk_drewN ?_ _ | refine blk_drew ?_ | refine blk_alloc ?_ _)); refine blk_put (cs := #[.string ((rd_T83 l0 x15_1).f0), .int .i64 0, .int .i64 0, .int .i64 0]) ?_ 1 _ rfl; (with_reducible repeat (first | refine blk_drewN ?_ _ | refine blk_drew ?_ | refine blk_alloc ?_ _)); refine blk_put (cs := #[.string (⟨#[]⟩ : ByteArray), .int .i64 0, .int .i64 0, .int .i64 0]) ?_ 0 _ rfl; (with_reducible repeat (first | refine blk_drewN ?_ _ | refine blk_drew ?_ | refine blk_alloc ?_ _)); exact BK830.out))⟩; have n2_ : Aside0 (Below w.heap.size w w29) := ⟨(by rw [hw]; exact (by repeat (first | (with_reducible first | exact HB.out | apply below_alloc | apply pw_below_drewN | apply below_drew1 | refine below_set ?_ GE830.out) | exact HB.out)))⟩; clear hw; clear HO_7; clear BK830; clear HB; have HO_7 := n0_; have BK830 := n1_; have HB := n2_; clear n0_ n1_ n2_; have hcz30_0 : w29.cell? ⟨gb830, 0, none⟩ = some (.string ((rd_T83 l0 x15_1).f0)) := (blk_cell BK830.out 0).trans rfl; have hcz30_1 : w29.cell? ⟨gb830, 1, none⟩ = some (.int .i64 ((rd_T83 l0 x15_1).f1)) := (blk_cell BK830.out 1).trans rfl; have hcz30_2 : w29.cell? ⟨gb830, 2, none⟩ = some (.int .i64 ((rd_T83 l0 x15_1).f2)) := (blk_cell BK830.out 2).trans rfl; have hcz30_3 : w29.cell? ⟨gb830, 3, none⟩ = some (.int .i64 ((rd_T83 l0 x15_1).f3)) := (blk_cell BK830.out 3).trans rfl; have hfz30_0 := blk_frozen BK830.out 0; have hfz30_1 := blk_frozen BK830.out 1; have hfz30_2 := blk_frozen BK830.out 2; have hfz30_3 := blk_frozen BK830.out 3; have p26 : 0 ≤ (x15_1 : Int) := of_decide_eq_true (by first | (with_reducible assumption) | assumption); have q26 : (x15_1 : Int) < ((x7_1.length : Int) : Int) := of_decide_eq_true (by first | (with_reducible assumption) | assumption); obtain ⟨go26, co26, eo26, gb26, gl26, cl26, HG26⟩ := Kd.R_form HO_7.out (by omega); (first | cases eo26 | (injection eo26 with ea_ en_ ec_; (first | subst ea_ | (injection ea_ with ea_; subst ea_)); subst ec_; clear en_)); have GB26 := Aside0.mk gb26; have GG26 := Aside0.mk HG26; clear gb26 gl26 HG26; obtain ⟨hx26_0, hf26_0⟩ := Kd.R_celln 0 HO_7.out (x15_1 : Int) p26 q26; replace p26 := eq_true p26; replace q26 := eq_true q26; obtain ⟨hy31_, hz31_⟩ := Kd.R_celln 0 HO_7.out (x15_1 : Int) (of_decide_eq_true (by first | (with_reducible assumption) | assumption)) (of_decide_eq_true (by first | (with_reducible assumption) | assumption)); have HP31 := Kd.R_putg HO_7.out (x15_1 : Int) ((rd_T83 l0 x15_1).f3)) | ((with_reducible refine gate_store (t := 3) (p := 56) rfl ?_); refine store_event (t := 3) (p := 56) (v := ?vo_w32) (w1 := (w29.setCell ⟨go26, (x15_1 : Int).toNat, none⟩ (.int .i64 ((rd_T83 l0 x15_1).f3)))) ?hg ?ho ?hn ?hr ?_; (case ho => rfl); (case hg => rfl); (case hn => rfl); (case hr => first | (go_simp; done) | (go_simp; rfl)); intro w32 hw; have hg : w29.grownBy w32 (some go26) := (by rw [hw]; exact HP31.2); have hp_ : Kd.R (Kd.int .i64) 3 w32 w.heap.size (fun _ => True) (.slice (some ⟨go26, 0, none⟩) x7_1.length co26) y836 := (by rw [hw, Ny836.out]; exact HP31.1); clear HP31; have n0_ := Aside0.mk (hp_); have n1_ := Aside0.mk (blk_grown (g := gb830) (o := .cells #[.string ((rd_T83 l0 x15_1).f0), .int .i64 ((rd_T83 l0 x15_1).f1), .int .i64 ((rd_T83 l0 x15_1).f2), .int .i64 ((rd_T83 l0 x15_1).f3)] 83 (0, 0)) (by (with_reducible repeat (first | refine blk_drewN ?_ _ | refine blk_drew ?_ | refine blk_alloc ?_ _)); exact BK830.out) hg (Kd.R_ne HO_7.out BK830.out (by decide))); have n2_ := Aside0.mk ((by rw [hw]; exact below_set (HB.out) GB26.out : Below w.heap.size w w32)); clear HO_7; clear BK830; clear HB; have HO_7 := n0_; have BK830 := n1_; have HB := n2_; clear n0_ n1_ n2_; clear hg hw hp_))
                      go_roundg k1
                      case measure => have := HK1.out; omega
                      case rel => exact ⟨(y836), (wrap64 (x15_1 + 1)), (by first | rfl | (simp; done) | (simp [*]; done)), H', ⟨by have := HK1.out; omega⟩, ⟨by (with_reducible repeat (first | apply Kd.R_alloc | apply Kd.R_drewN | apply Kd.R_drew)); exact HO_7.out⟩, ⟨by repeat (first | (with_reducible first | exact HB.out | apply below_alloc | apply pw_below_drewN | apply below_drew1 | refine below_set ?_ GE830.out) | exact HB.out)⟩⟩
                    · rw [if_neg c25] at H
                      exact absurd H (by simp)
                  · rw [if_neg c24] at H
                    have c24b0 : (((rd_T83 l0 x15_1).f0).toList == ([99, 111, 110, 115, 116] : List UInt8)) = false := beq_eq_false_iff_ne.mpr c24
                    have c24b1 : (((rd_T83 l0 x15_1).f0).toList != ([99, 111, 110, 115, 116] : List UInt8)) = true := bne_iff_ne.mpr c24
                    by_cases c33 : 0 ≤ ((rd_T83 l0 x15_1).f1)
                    · rw [if_pos c33] at H
                      have c33b0 : decide (0 ≤ ((rd_T83 l0 x15_1).f1)) = true := decide_eq_true c33
                      clear c33
                      by_cases c34 : ((rd_T83 l0 x15_1).f1) < (x7_1.length : Int)
                      · rw [if_pos c34] at H
                        have c34b0 : decide (((rd_T83 l0 x15_1).f1) < (x7_1.length : Int)) = true := decide_eq_true c34
                        clear c34
                        by_cases c35 : 0 ≤ ((rd_T83 l0 x15_1).f2)
                        · rw [if_pos c35] at H
                          have c35b0 : decide (0 ≤ ((rd_T83 l0 x15_1).f2)) = true := decide_eq_true c35
                          clear c35
                          by_cases c36 : ((rd_T83 l0 x15_1).f2) < (x7_1.length : Int)
                          · rw [if_pos c36] at H
                            have c36b0 : decide (((rd_T83 l0 x15_1).f2) < (x7_1.length : Int)) = true := decide_eq_true c36
                            clear c36
                            replace H := Option.bind_eq_some_iff.mp H
                            obtain ⟨t839, A370, H⟩ := H
                            replace H : (if x15_1 < (x7_1.length : Int) then (impl_values.l0 k1 a1 a2 (x7_1.set (x15_1 : Int).toNat t839) l0 (l0.length : Int) (wrap64 (x15_1 + 1))) else (none)) = some r := H
                            have A37 := Aside0.mk A370
                            clear A370
                            by_cases c38 : x15_1 < (x7_1.length : Int)
                            · rw [if_pos c38] at H
                              have c38b0 : decide (x15_1 < (x7_1.length : Int)) = true := decide_eq_true c38
                              clear c38
                              obtain ⟨y840, hy840⟩ : ∃ y_ : List Int, y_ = (x7_1.set (x15_1 : Int).toNat t839) := ⟨_, rfl⟩
                              replace H : (impl_values.l0 k1 a1 a2 y840 l0 (l0.length : Int) (wrap64 (x15_1 + 1))) = some r := by first | (rw [hy840]; with_reducible exact H) | (have H2_ := (Option.bind_some _ _).symm.trans H; rw [hy840]; with_reducible exact H2_) | (have H2_ := (Option.bind_some _ _).symm.trans H; with_reducible exact H2_) | with_reducible exact H | (rw [hy840]; exact H) | exact H
                              have Ny840 := Aside0.mk hy840
                              clear hy840
                              have H' := Aside0.mk H
                              clear H
                              have p829 : 0 ≤ (x15_1 : Int) := of_decide_eq_true (by first | (with_reducible assumption) | assumption)
                              have q829 : x15_1 < (l0.length : Int) := of_decide_eq_true (by first | (with_reducible assumption) | assumption)
                              obtain ⟨ad829, e829, hx829_0, hx829_1, hx829_2, hx829_3⟩ := at_T83 HR0.out x15_1 p829 q829
                              cases e829
                              replace hx829_0 := (HB.out.cell (World.block_lt_of_cell? w _ hx829_0)).trans hx829_0
                              replace hx829_1 := (HB.out.cell (World.block_lt_of_cell? w _ hx829_1)).trans hx829_1
                              replace hx829_2 := (HB.out.cell (World.block_lt_of_cell? w _ hx829_2)).trans hx829_2
                              replace hx829_3 := (HB.out.cell (World.block_lt_of_cell? w _ hx829_3)).trans hx829_3
                              replace p829 := eq_true p829
                              replace q829 := eq_true q829
                              try go_wp2_with (first | ((with_reducible refine gate_dst (N := 9) rfl ?_); refine box_event ?hg (N := 9) ?hd (cs := #[.string (⟨#[]⟩ : ByteArray), .int .i64 0, .int .i64 0, .int .i64 0]) (t := 83) ?hr ?_; (case hd => rfl); (case hg => rfl); (case hr => first | (go_simp; done) | (go_simp; rfl)); intro gb830 hg w40 hbox hb; have n0_ := Aside0.mk (Kd.R_below (by (with_reducible repeat (first | apply Kd.R_alloc | apply Kd.R_drewN | apply Kd.R_drew)); exact HO_7.out) hb); have n1_ := Aside0.mk (below_step (by repeat (first | (with_reducible first | exact HB.out | apply below_alloc | apply pw_below_drewN | apply below_drew1) | exact HB.out)) hb); have n2_ := Aside0.mk (hbox); have n3_ := Aside0.mk ((by rw [hg]; exact (below_size (by repeat (first | (with_reducible first | exact HB.out | apply below_alloc | apply pw_below_drewN | apply below_drew1) | exact HB.out))) : w.heap.size ≤ gb830)); have n4_ := Aside0.mk ((by rw [hg]; exact (below_size (by repeat (first | (with_reducible first | exact HB.out | apply below_alloc | apply pw_below_drewN | apply below_drew1) | exact HB.out))) : w.heap.size ≤ gb830)); clear HO_7; clear HB; have HO_7 := n0_; have HB := n1_; have BK830 := n2_; have GW830 := n3_; have GE830 := n4_; clear n0_ n1_ n2_ n3_ n4_; clear hb hbox hg; have hcz41_0 : w40.cell? ⟨gb830, 0, none⟩ = some (.string (⟨#[]⟩ : ByteArray)) := (blk_cell BK830.out 0).trans rfl; have hcz41_1 : w40.cell? ⟨gb830, 1, none⟩ = some (.int .i64 0) := (blk_cell BK830.out 1).trans rfl; have hcz41_2 : w40.cell? ⟨gb830, 2, none⟩ = some (.int .i64 0) := (blk_cell BK830.out 2).trans rfl; have hcz41_3 : w40.cell? ⟨gb830, 3, none⟩ = some (.int .i64 0) := (blk_cell BK830.out 3).trans rfl; have hfz41_0 := blk_frozen BK830.out 0; have hfz41_1 := blk_frozen BK830.out 1; have hfz41_2 := blk_frozen BK830.out 2; have hfz41_3 := blk_frozen BK830.out 3))
                              have n0_ : Aside0 (Kd.R (Kd.int .i64) 3 ((((w40.setCell ⟨gb830, 0, none⟩ (.string ((rd_T83 l0 x15_1).f0))).setCell ⟨gb830, 1, none⟩ (.int .i64 ((rd_T83 l0 x15_1).f1))).setCell ⟨gb830, 2, none⟩ (.int .i64 ((rd_T83 l0 x15_1).f2))).setCell ⟨gb830, 3, none⟩ (.int .i64 ((rd_T83 l0 x15_1).f3))) w.heap.size (fun _ => True) v827 x7_1) := ⟨by (with_reducible repeat (first | apply Kd.R_alloc | apply Kd.R_drewN | apply Kd.R_drew)); exact Kd.R_mono (Kd.R_far (p := ⟨gb830, 3, none⟩) (Kd.R_far (p := ⟨gb830, 2, none⟩) (Kd.R_far (p := ⟨gb830, 1, none⟩) (Kd.R_far (p := ⟨gb830, 0, none⟩) (Kd.R_types HO_7.out BK830.out (by decide)) (fun _ hk => hk.2) (.string ((rd_T83 l0 x15_1).f0))) (fun _ hk => hk.2) (.int .i64 ((rd_T83 l0 x15_1).f1))) (fun _ hk => hk.2) (.int .i64 ((rd_T83 l0 x15_1).f2))) (fun _ hk => hk.2) (.int .i64 ((rd_T83 l0 x15_1).f3))) (fun _ hk => trivial)⟩
                              have n1_ : Aside0 (((((w40.setCell ⟨gb830, 0, none⟩ (.string ((rd_T83 l0 x15_1).f0))).setCell ⟨gb830, 1, none⟩ (.int .i64 ((rd_T83 l0 x15_1).f1))).setCell ⟨gb830, 2, none⟩ (.int .i64 ((rd_T83 l0 x15_1).f2))).setCell ⟨gb830, 3, none⟩ (.int .i64 ((rd_T83 l0 x15_1).f3))).heap[gb830]? = some (.cells #[.string ((rd_T83 l0 x15_1).f0), .int .i64 ((rd_T83 l0 x15_1).f1), .int .i64 ((rd_T83 l0 x15_1).f2), .int .i64 ((rd_T83 l0 x15_1).f3)] 83 (0, 0))) := ⟨by (with_reducible repeat (first | refine blk_drewN ?_ _ | refine blk_drew ?_ | refine blk_alloc ?_ _)); refine blk_put (cs := #[.string ((rd_T83 l0 x15_1).f0), .int .i64 ((rd_T83 l0 x15_1).f1), .int .i64 ((rd_T83 l0 x15_1).f2), .int .i64 0]) ?_ 3 _ rfl; (with_reducible repeat (first | refine blk_drewN ?_ _ | refine blk_drew ?_ | refine blk_alloc ?_ _)); refine blk_put (cs := #[.string ((rd_T83 l0 x15_1).f0), .int .i64 ((rd_T83 l0 x15_1).f1), .int .i64 0, .int .i64 0]) ?_ 2 _ rfl; (with_reducible repeat (first | refine blk_drewN ?_ _ | refine blk_drew ?_ | refine blk_alloc ?_ _)); refine blk_put (cs := #[.string ((rd_T83 l0 x15_1).f0), .int .i64 0, .int .i64 0, .int .i64 0]) ?_ 1 _ rfl; (with_reducible repeat (first | refine blk_drewN ?_ _ | refine blk_drew ?_ | refine blk_alloc ?_ _)); refine blk_put (cs := #[.string (⟨#[]⟩ : ByteArray), .int .i64 0, .int .i64 0, .int .i64 0]) ?_ 0 _ rfl; (with_reducible repeat (first | refine blk_drewN ?_ _ | refine blk_drew ?_ | refine blk_alloc ?_ _)); exact BK830.out⟩
                              have n2_ : Aside0 (Below w.heap.size w ((((w40.setCell ⟨gb830, 0, none⟩ (.string ((rd_T83 l0 x15_1).f0))).setCell ⟨gb830, 1, none⟩ (.int .i64 ((rd_T83 l0 x15_1).f1))).setCell ⟨gb830, 2, none⟩ (.int .i64 ((rd_T83 l0 x15_1).f2))).setCell ⟨gb830, 3, none⟩ (.int .i64 ((rd_T83 l0 x15_1).f3)))) := ⟨by repeat (first | (with_reducible first | exact HB.out | apply below_alloc | apply pw_below_drewN | apply below_drew1 | refine below_set ?_ GE830.out) | exact HB.out)⟩
                              (try clear HO_7)
                              (try clear BK830)
                              (try clear HB)
                              generalize ((((w40.setCell ⟨gb830, 0, none⟩ (.string ((rd_T83 l0 x15_1).f0))).setCell ⟨gb830, 1, none⟩ (.int .i64 ((rd_T83 l0 x15_1).f1))).setCell ⟨gb830, 2, none⟩ (.int .i64 ((rd_T83 l0 x15_1).f2))).setCell ⟨gb830, 3, none⟩ (.int .i64 ((rd_T83 l0 x15_1).f3))) = w42 at n0_ n1_ n2_ ⊢
                              have HO_7 := n0_
                              have BK830 := n1_
                              have HB := n2_
                              clear n0_ n1_ n2_
                              have n0_ := Aside0.mk (Kd.R_drew HO_7.out)
                              have n1_ := Aside0.mk (blk_drew BK830.out)
                              have n2_ := Aside0.mk (below_drew1 HB.out)
                              clear HO_7
                              clear BK830
                              clear HB
                              have HO_7 := n0_
                              have BK830 := n1_
                              have HB := n2_
                              clear n0_ n1_ n2_
                              obtain ⟨Ao44, co44, eo44⟩ := Kd.R_slice HO_7.out
                              (first | subst eo44 | (injection eo44 with f1_ f2_ f3_; have f4_ := f1_.symm; have f5_ := f3_.symm; clear f1_ f2_ f3_; subst f4_; subst f5_))
                              have p837 : 0 ≤ (((rd_T83 l0 x15_1).f1) : Int) := of_decide_eq_true (by first | (with_reducible assumption) | assumption)
                              have q837 : ((rd_T83 l0 x15_1).f1) < (x7_1.length : Int) := of_decide_eq_true (by first | (with_reducible assumption) | assumption)
                              obtain ⟨ad837, e837, hx837_0⟩ := Kd.at_int (Kd.R_reads' HO_7.out).2.2 ((rd_T83 l0 x15_1).f1) p837 q837
                              cases e837
                              replace p837 := eq_true p837
                              replace q837 := eq_true q837
                              have p838 : 0 ≤ (((rd_T83 l0 x15_1).f2) : Int) := of_decide_eq_true (by first | (with_reducible assumption) | assumption)
                              have q838 : ((rd_T83 l0 x15_1).f2) < (x7_1.length : Int) := of_decide_eq_true (by first | (with_reducible assumption) | assumption)
                              obtain ⟨ad838, e838, hx838_0⟩ := Kd.at_int (Kd.R_reads' HO_7.out).2.2 ((rd_T83 l0 x15_1).f2) p838 q838
                              obtain rfl : ad837 = ad838 := (by injection e838)
                              replace p838 := eq_true p838
                              replace q838 := eq_true q838
                              refine start_ (n := 17) (S := fun w' => w'.cell? ⟨gb830, 0, none⟩ = some (.string ((rd_T83 l0 x15_1).f0)) ∧ w'.cell? ⟨gb830, 1, none⟩ = some (.int .i64 ((rd_T83 l0 x15_1).f1)) ∧ w'.cell? ⟨gb830, 2, none⟩ = some (.int .i64 ((rd_T83 l0 x15_1).f2)) ∧ w'.cell? ⟨gb830, 3, none⟩ = some (.int .i64 ((rd_T83 l0 x15_1).f3)) ∧ w'.cell? (ad837.add (((rd_T83 l0 x15_1).f1)).toNat) = some (.int .i64 (rd x7_1 ((rd_T83 l0 x15_1).f1))) ∧ w'.cell? (ad837.add (((rd_T83 l0 x15_1).f2)).toNat) = some (.int .i64 (rd x7_1 ((rd_T83 l0 x15_1).f2)))) (ds := [16]) #[false, false, false, false, false, false, false, false, false, false, false, false, false, false, false, false, false] (by kernel_rfl) rfl rfl ⟨(blk_cell BK830.out 0).trans rfl, (blk_cell BK830.out 1).trans rfl, (blk_cell BK830.out 2).trans rfl, (blk_cell BK830.out 3).trans rfl, hx837_0, hx838_0⟩ (fun hHeld => ?_); refine with_tabW impl_values.tab6 impl_values.bits6 (fun HT_ HW_ => ?_)
                              generalize w42.drew = w43 at HO_7 BK830 HB hx837_0 hx838_0 hHeld ⊢
                              refine pure_ (i := 0) (N := some 22) (v := ?_) (a' := ?_) #[true, false, false, false, false, false, false, false, false, false, false, false, false, false, false, false, false] rfl rfl (any_of HT_.out (by kernel_rfl)) (fun _ _ _ h => h) (Or.inl ⟨by rfl, ?_⟩) ?_ ?_
                              rotate_left
                              · intro w'
                                go_simp
                                with_reducible rfl
                              rotate_left
                              · simp only [Act.put, List.setIfInBounds_toArray, List.set_cons_zero, List.set_cons_succ, i64_w, i32_w]
                                rfl
                              refine pure_ (i := 1) (N := some 23) (v := ?_) (a' := ?_) #[true, true, false, false, false, false, false, false, false, false, false, false, false, false, false, false, false] rfl rfl (any_of HT_.out (by kernel_rfl)) (fun _ _ _ h => h) (Or.inl ⟨by rfl, ?_⟩) ?_ ?_
                              rotate_left
                              · intro w'
                                go_simp
                                with_reducible rfl
                              rotate_left
                              · simp only [Act.put, List.setIfInBounds_toArray, List.set_cons_zero, List.set_cons_succ, i64_w, i32_w]
                                rfl
                              refine pure_ (i := 2) (N := some 24) (v := ?_) (a' := ?_) #[true, true, true, false, false, false, false, false, false, false, false, false, false, false, false, false, false] rfl rfl (any_of HT_.out (by kernel_rfl)) (fun _ _ _ h => h) (Or.inl ⟨by rfl, ?_⟩) ?_ ?_
                              rotate_left
                              · intro w'
                                go_simp
                                with_reducible rfl
                              rotate_left
                              · simp only [Act.put, List.setIfInBounds_toArray, List.set_cons_zero, List.set_cons_succ, i64_w, i32_w]
                                rfl
                              refine pure_ (i := 4) (N := some 26) (v := ?_) (a' := ?_) #[true, true, true, false, true, false, false, false, false, false, false, false, false, false, false, false, false] rfl rfl (any_of HT_.out (by kernel_rfl)) (fun _ _ _ h => h) (Or.inl ⟨by rfl, ?_⟩) ?_ ?_
                              rotate_left
                              · intro w'
                                go_simp
                                with_reducible rfl
                              rotate_left
                              · simp only [Act.put, List.setIfInBounds_toArray, List.set_cons_zero, List.set_cons_succ, i64_w, i32_w]
                                rfl
                              refine pure_ (i := 5) (N := some 27) (v := ?_) (a' := ?_) #[true, true, true, false, true, true, false, false, false, false, false, false, false, false, false, false, false] rfl rfl (any_of HT_.out (by kernel_rfl)) (fun _ _ _ h => h) (Or.inl ⟨by rfl, ?_⟩) ?_ ?_
                              rotate_left
                              · intro w'
                                go_simp
                                with_reducible rfl
                              rotate_left
                              · simp only [Act.put, List.setIfInBounds_toArray, List.set_cons_zero, List.set_cons_succ, i64_w, i32_w]
                                rfl
                              refine pure_ (i := 9) (N := some 31) (v := ?_) (a' := ?_) #[true, true, true, false, true, true, false, false, false, true, false, false, false, false, false, false, false] rfl rfl (any_of HT_.out (by kernel_rfl)) (fun _ _ _ h => h) (Or.inl ⟨by rfl, ?_⟩) ?_ ?_
                              rotate_left
                              · intro w'
                                go_simp
                                with_reducible rfl
                              rotate_left
                              · simp only [Act.put, List.setIfInBounds_toArray, List.set_cons_zero, List.set_cons_succ, i64_w, i32_w]
                                rfl
                              refine pure_ (i := 10) (N := some 32) (v := ?_) (a' := ?_) #[true, true, true, false, true, true, false, false, false, true, true, false, false, false, false, false, false] rfl rfl (any_of HT_.out (by kernel_rfl)) (fun _ _ _ h => h) (Or.inl ⟨by rfl, ?_⟩) ?_ ?_
                              rotate_left
                              · intro w'
                                go_simp
                                with_reducible rfl
                              rotate_left
                              · simp only [Act.put, List.setIfInBounds_toArray, List.set_cons_zero, List.set_cons_succ, i64_w, i32_w]
                                rfl
                              refine take_ (i := 3) (N := some 25) (v := ?_) (a' := ?_) #[true, true, true, true, true, true, false, false, false, true, true, false, false, false, false, false, false] rfl rfl (take_ofW HT_.out HW_.out (by kernel_rfl)) (fun _ _ _ h => h) (Or.inl ⟨by rfl, ?_⟩) hHeld ?_ ?_
                              rotate_left
                              · rintro w' ⟨s0, s1, s2, s3, s4, s5⟩
                                go_simp
                                with_reducible rfl
                              rotate_left
                              · simp only [Act.put, List.setIfInBounds_toArray, List.set_cons_zero, List.set_cons_succ, i64_w, i32_w]
                                rfl
                              refine take_ (i := 6) (N := some 28) (v := ?_) (a' := ?_) #[true, true, true, true, true, true, true, false, false, true, true, false, false, false, false, false, false] rfl rfl (take_ofW HT_.out HW_.out (by kernel_rfl)) (fun _ _ _ h => h) (Or.inl ⟨by rfl, ?_⟩) hHeld ?_ ?_
                              rotate_left
                              · rintro w' ⟨s0, s1, s2, s3, s4, s5⟩
                                go_simp
                                with_reducible rfl
                              rotate_left
                              · simp only [Act.put, List.setIfInBounds_toArray, List.set_cons_zero, List.set_cons_succ, i64_w, i32_w]
                                rfl
                              refine pure_ (i := 7) (N := some 29) (v := ?_) (a' := ?_) #[true, true, true, true, true, true, true, true, false, true, true, false, false, false, false, false, false] rfl rfl (any_of HT_.out (by kernel_rfl)) (fun _ _ _ h => h) (Or.inl ⟨by rfl, ?_⟩) ?_ ?_
                              rotate_left
                              · intro w'
                                go_simp
                                with_reducible rfl
                              rotate_left
                              · simp only [Act.put, List.setIfInBounds_toArray, List.set_cons_zero, List.set_cons_succ, i64_w, i32_w]
                                rfl
                              refine take_ (i := 8) (N := some 30) (v := ?_) (a' := ?_) #[true, true, true, true, true, true, true, true, true, true, true, false, false, false, false, false, false] rfl rfl (take_ofW HT_.out HW_.out (by kernel_rfl)) (fun _ _ _ h => h) (Or.inl ⟨by rfl, ?_⟩) hHeld ?_ ?_
                              rotate_left
                              · rintro w' ⟨s0, s1, s2, s3, s4, s5⟩
                                go_simp
                                with_reducible rfl
                              rotate_left
                              · simp only [Act.put, List.setIfInBounds_toArray, List.set_cons_zero, List.set_cons_succ, i64_w, i32_w]
                                rfl
                              refine take_ (i := 11) (N := some 33) (v := ?_) (a' := ?_) #[true, true, true, true, true, true, true, true, true, true, true, true, false, false, false, false, false] rfl rfl (take_ofW HT_.out HW_.out (by kernel_rfl)) (fun _ _ _ h => h) (Or.inl ⟨by rfl, ?_⟩) hHeld ?_ ?_
                              rotate_left
                              · rintro w' ⟨s0, s1, s2, s3, s4, s5⟩
                                go_simp
                                with_reducible rfl
                              rotate_left
                              · simp only [Act.put, List.setIfInBounds_toArray, List.set_cons_zero, List.set_cons_succ, i64_w, i32_w]
                                rfl
                              refine pure_ (i := 12) (N := some 34) (v := ?_) (a' := ?_) #[true, true, true, true, true, true, true, true, true, true, true, true, true, false, false, false, false] rfl rfl (any_of HT_.out (by kernel_rfl)) (fun _ _ _ h => h) (Or.inl ⟨by rfl, ?_⟩) ?_ ?_
                              rotate_left
                              · intro w'
                                go_simp
                                with_reducible rfl
                              rotate_left
                              · simp only [Act.put, List.setIfInBounds_toArray, List.set_cons_zero, List.set_cons_succ, i64_w, i32_w]
                                rfl
                              refine take_ (i := 13) (N := some 35) (v := ?_) (a' := ?_) #[true, true, true, true, true, true, true, true, true, true, true, true, true, true, false, false, false] rfl rfl (take_ofW HT_.out HW_.out (by kernel_rfl)) (fun _ _ _ h => h) (Or.inl ⟨by rfl, ?_⟩) hHeld ?_ ?_
                              rotate_left
                              · rintro w' ⟨s0, s1, s2, s3, s4, s5⟩
                                go_simp
                                with_reducible rfl
                              rotate_left
                              · simp only [Act.put, List.setIfInBounds_toArray, List.set_cons_zero, List.set_cons_succ, i64_w, i32_w]
                                rfl
                              refine one_ (i := 14) (N := some 36) #[true, true, true, true, true, true, true, true, true, true, true, true, true, true, true, false, false] rfl rfl (one_of HT_.out (by kernel_rfl)) (by decide) (fun K hK => ?_)
                              refine goes_ Try.func188 (by kernel_rfl) rfl #[.string ((rd_T83 l0 x15_1).f0), .int .i64 (rd x7_1 ((rd_T83 l0 x15_1).f1)), .int .i64 (rd x7_1 ((rd_T83 l0 x15_1).f2))] (by rfl) rfl rfl (by (try simp only [List.map_toArray, List.map_cons, List.map_nil]); first | done | rfl | (simp only [List.length_drop, List.length_take]; rfl)) ?_
                              with_reducible refine (impl_apply.calls ((rd_T83 l0 x15_1).f0) (rd x7_1 ((rd_T83 l0 x15_1).f1)) (rd x7_1 ((rd_T83 l0 x15_1).f2)) t839 _ A37.out).mono ?_
                              rintro e w' ⟨rfl, ⟨nd, rfl⟩⟩
                              refine ⟨_, rfl, ?_⟩
                              have p39 : 0 ≤ (x15_1 : Int) := of_decide_eq_true (by first | (with_reducible assumption) | assumption)
                              have q39 : (x15_1 : Int) < ((x7_1.length : Int) : Int) := of_decide_eq_true (by first | (with_reducible assumption) | assumption)
                              obtain ⟨go39, co39, eo39, gb39, gl39, cl39, HG39⟩ := Kd.R_form HO_7.out (by omega)
                              (first | cases eo39 | (injection eo39 with ea_ en_ ec_; (first | subst ea_ | (injection ea_ with ea_; subst ea_)); subst ec_; clear en_))
                              have GB39 := Aside0.mk gb39
                              have GG39 := Aside0.mk HG39
                              clear gb39 gl39 HG39
                              (first | simp only [add_plain] at hx837_0 | skip)
                              (first | simp only [add_plain] at hx838_0 | skip)
                              obtain ⟨hx39_0, hf39_0⟩ := Kd.R_celln 0 HO_7.out (x15_1 : Int) p39 q39
                              replace p39 := eq_true p39
                              replace q39 := eq_true q39
                              have HP45 := Kd.R_putn HO_7.out (x15_1 : Int) t839
                              rw [← Ny840.out] at HP45
                              have HQ45 := Aside0.mk HP45
                              clear HP45
                              refine hK.out _ _ ⟨(blk_cell BK830.out 0).trans rfl, (blk_cell BK830.out 1).trans rfl, (blk_cell BK830.out 2).trans rfl, (blk_cell BK830.out 3).trans rfl, hHeld.2.2.2.2.1, hHeld.2.2.2.2.2⟩ (fun hHeld => ?_)
                              clear hK K
                              refine norm_ (a' := ?_) ?_ ?_
                              rotate_left
                              · show Act.put _ (some 36) _ = _
                                simp only [Act.put, List.setIfInBounds_toArray, List.set_cons_zero, List.set_cons_succ, i64_w, i32_w]
                                rfl
                              refine pure_ (i := 15) (N := some 37) (v := ?_) (a' := ?_) #[true, true, true, true, true, true, true, true, true, true, true, true, true, true, true, true, false] rfl rfl (any_of HT_.out (by kernel_rfl)) (fun _ _ _ h => h) (Or.inl ⟨by rfl, ?_⟩) ?_ ?_
                              rotate_left
                              · intro w'
                                go_simp
                                with_reducible rfl
                              rotate_left
                              · simp only [Act.put, List.setIfInBounds_toArray, List.set_cons_zero, List.set_cons_succ, i64_w, i32_w]
                                rfl
                              refine last_ (i := 16) (N := none) #[true, true, true, true, true, true, true, true, true, true, true, true, true, true, true, true, true] rfl rfl (one_of HT_.out (by kernel_rfl)) (by decide) (fun K hK => ?_)
                              refine skip_ (w1 := ?_) (by rfl) rfl ?_ ?_
                              rotate_left
                              · go_simp
                                rfl
                              refine hK.out _ _ ?_
                              clear hK K
                              refine done_ (done_of HT_.out (by kernel_rfl)) ?_
                              try go_wp2
                              go_roundg k1
                              case measure => have := HK1.out; omega
                              case rel => exact ⟨(y840), (wrap64 (x15_1 + 1)), (by first | rfl | (simp; done) | (simp [*]; done)), H', ⟨by have := HK1.out; omega⟩, ⟨by (with_reducible repeat (first | apply Kd.R_alloc | apply Kd.R_drewN | apply Kd.R_drew)); exact HQ45.out⟩, ⟨by repeat (first | (with_reducible first | exact HB.out | apply below_alloc | apply pw_below_drewN | apply below_drew1 | refine below_set ?_ GB39.out | refine below_set ?_ GE830.out) | exact HB.out)⟩⟩
                            · rw [if_neg c38] at H
                              exact absurd H (by simp)
                          · rw [if_neg c36] at H
                            exact absurd H (by simp)
                        · rw [if_neg c35] at H
                          exact absurd H (by simp)
                      · rw [if_neg c34] at H
                        exact absurd H (by simp)
                    · rw [if_neg c33] at H
                      exact absurd H (by simp)
              · rw [if_neg c10] at H
                exact absurd H (by simp)
            · rw [if_neg c9] at H
              exact absurd H (by simp)
          · rw [if_neg c8] at H
            have c8b0 : decide (x15_1 < (l0.length : Int)) = false := decide_eq_false c8
            clear c8
            obtain rfl := Option.some.inj H
            go_wp2
            go_ret
            exact ⟨_, by first | rfl | (simp [errW_none, errW_some] <;> rfl) | (simp [*, errW_none, errW_some] <;> rfl), by (with_reducible repeat (first | apply Kd.R_alloc | apply Kd.R_drewN | apply Kd.R_drew)); exact HO_7.out, by repeat (first | (with_reducible first | exact HB.out | apply below_alloc | apply pw_below_drewN | apply below_drew1) | exact HB.out)⟩
    · rw [if_neg c5] at H
      exact absurd H (by simp)
  · rw [if_neg c4] at H
    exact absurd H (by simp)

end Go.Proofs.Ytamahlhoainocaa.F
