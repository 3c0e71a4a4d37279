/- Contracts: spec_AreIndependent, impl_AreIndependent, laws_FnExactAreIndependent. -/
import Derived.Test.YthnckplfnmkmpaaFK
import Derived.Test.YthnckplfnmkmpaaFSpecL1In
import Derived.Test.YthnckplfnmkmpaaFSpecL1Put
import Derived.Test.YthnckplfnmkmpaaFImplIsInstr
import Derived.Test.YthnckplfnmkmpaaFSpecL1Has
namespace Go.Proofs.Ythnckplfnmkmpaa.F
open Go.RowKit Go.Proofs.YthnckplfnmkmpaaW.PrintWords Go.Proofs.YthnckplfnmkmpaaW.PrintLast Go.Proofs.YthnckplfnmkmpaaW.PrintMore
attribute [local go_sem] max2_int min2_int max_two min_two max_three min_three max_four min_four   -- for this text's walks alone
set_option linter.unusedVariables false
set_option linter.unusedSimpArgs false

/-! ### spec_AreIndependent: function 23 -/
def spec_AreIndependent.f (k : Nat) (a0_0 : ByteArray) (a0_1 : Int) (a0_2 : Int) (a0_3 : Int) (a0_4 : Int) (a1_0 : ByteArray) (a1_1 : Int) (a1_2 : Int) (a1_3 : Int) (a1_4 : Int) : Option (Bool × Bool) := (spec_cdGood.f k a0_0 a0_1 a0_2 a0_3 a0_4).bind fun t703 => (if t703 = true then ((spec_cdGood.f k a1_0 a1_1 a1_2 a1_3 a1_4).bind fun t704 => (if t704 = true then ((spec_cdFree.f k a0_0 a0_1 a0_2 a0_3 a0_4 a1_0 a1_1 a1_2 a1_3 a1_4).bind fun t705 => (some (t705, true))) else (some (false, false)))) else (some (false, false)))
theorem spec_AreIndependent.mono : ∀ a0 a1 a2 a3 a4 a5 a6 a7 a8 a9 k, LeO (spec_AreIndependent.f k a0 a1 a2 a3 a4 a5 a6 a7 a8 a9) (spec_AreIndependent.f (k + 1) a0 a1 a2 a3 a4 a5 a6 a7 a8 a9) := by
  intro a0 a1 a2 a3 a4 a5 a6 a7 a8 a9 k
  unfold spec_AreIndependent.f
  repeat' first
      | (with_reducible exact spec_cdFree.mono _ _ _ _ _ _ _ _ _ _ _)
      | (with_reducible exact spec_cdGood.mono _ _ _ _ _ _)
      | (with_reducible exact LeO.refl _)
      | (with_reducible exact LeO.none _)
      | (with_reducible refine LeO.ite ?_ ?_)
      | (with_reducible refine LeO.bind ?_ (fun _ => ?_))
      | exact spec_cdFree.mono _ _ _ _ _ _ _ _ _ _ _
      | exact spec_cdGood.mono _ _ _ _ _ _
      | exact LeO.none _
      | refine LeO.ite ?_ ?_
      | refine LeO.bind ?_ (fun _ => ?_)
set_option maxHeartbeats 8000000 in
set_option maxRecDepth 100000 in
theorem spec_AreIndependent.calls (k : Nat) (a0_0 : ByteArray) (a0_1 : Int) (a0_2 : Int) (a0_3 : Int) (a0_4 : Int) (a1_0 : ByteArray) (a1_1 : Int) (a1_2 : Int) (a1_3 : Int) (a1_4 : Int) (r1 : Bool) (r2 : Bool) (w : World) (h : spec_AreIndependent.f k a0_0 a0_1 a0_2 a0_3 a0_4 a1_0 a1_1 a1_2 a1_3 a1_4 = some (r1, r2)) :
    Calls Try.prog 23 #[.agg #[.string a0_0, .int .i64 a0_1, .int .i64 a0_2, .int .i64 a0_3, .int .i64 a0_4], .agg #[.string a1_0, .int .i64 a1_1, .int .i64 a1_2, .int .i64 a1_3, .int .i64 a1_4]] w fun e w' => e = .returned (.tuple #[.bool r1, .bool r2]) ∧ Below w.heap.size w w' := by
  have hu37 := Try.underlying37
  have HB := Aside0.mk (Below.refl w.heap.size w)
  have H : ((spec_cdGood.f k a0_0 a0_1 a0_2 a0_3 a0_4).bind fun t703 => (if t703 = true then ((spec_cdGood.f k a1_0 a1_1 a1_2 a1_3 a1_4).bind fun t704 => (if t704 = true then ((spec_cdFree.f k a0_0 a0_1 a0_2 a0_3 a0_4 a1_0 a1_1 a1_2 a1_3 a1_4).bind fun t705 => (some (t705, true))) else (some (false, false)))) else (some (false, false)))) = some (r1, r2) := h
  clear h
  replace H := Option.bind_eq_some_iff.mp H
  obtain ⟨t703, A30, H⟩ := H
  replace H : (if t703 = true then ((spec_cdGood.f k a1_0 a1_1 a1_2 a1_3 a1_4).bind fun t704 => (if t704 = true then ((spec_cdFree.f k a0_0 a0_1 a0_2 a0_3 a0_4 a1_0 a1_1 a1_2 a1_3 a1_4).bind fun t705 => (some (t705, true))) else (some (false, false)))) else (some (false, false))) = some (r1, r2) := H
  have A3 := Aside0.mk A30
  clear A30
  by_cases c4 : t703 = true
  · subst c4
    have H1 : ((spec_cdGood.f k a1_0 a1_1 a1_2 a1_3 a1_4).bind fun t704 => (if t704 = true then ((spec_cdFree.f k a0_0 a0_1 a0_2 a0_3 a0_4 a1_0 a1_1 a1_2 a1_3 a1_4).bind fun t705 => (some (t705, true))) else (some (false, false)))) = some (r1, r2) := by rw [if_pos rfl] at H; exact H
    clear H
    have H := H1
    clear H1
    replace H := Option.bind_eq_some_iff.mp H
    obtain ⟨t704, A50, H⟩ := H
    replace H : (if t704 = true then ((spec_cdFree.f k a0_0 a0_1 a0_2 a0_3 a0_4 a1_0 a1_1 a1_2 a1_3 a1_4).bind fun t705 => (some (t705, true))) else (some (false, false))) = some (r1, r2) := H
    have A5 := Aside0.mk A50
    clear A50
    by_cases c6 : t704 = true
    · subst c6
      have H1 : ((spec_cdFree.f k a0_0 a0_1 a0_2 a0_3 a0_4 a1_0 a1_1 a1_2 a1_3 a1_4).bind fun t705 => (some (t705, true))) = some (r1, r2) := by rw [if_pos rfl] at H; exact H
      clear H
      have H := H1
      clear H1
      replace H := Option.bind_eq_some_iff.mp H
      obtain ⟨t705, A70, H⟩ := H
      replace H : (some (t705, true)) = some (r1, r2) := H
      have A7 := Aside0.mk A70
      clear A70
      simp only [Option.some.injEq, Prod.mk.injEq] at H
      obtain ⟨rfl, rfl⟩ := H
      go_enter Try.func23, Try.ntmps23
      go_wp2_with (first | ((with_reducible refine gate_dst (N := 2) rfl ?_); refine box_event ?hg (N := 2) ?hd (cs := #[.string a0_0, .int .i64 a0_1, .int .i64 a0_2, .int .i64 a0_3, .int .i64 a0_4]) (t := 37) ?hr ?_; (case hd => rfl); (case hg => rfl); (case hr => first | (go_simp; done) | (go_simp; rfl)); intro gb701 hg w8 hbox hb; have n0_ := Aside0.mk (below_step (by repeat (first | (with_reducible first | exact HB.out | apply below_alloc | apply pw_below_drewN | apply below_drew1) | exact HB.out)) hb); have n1_ := Aside0.mk (hbox); have n2_ := Aside0.mk ((by rw [hg]; exact (below_size (by repeat (first | (with_reducible first | exact HB.out | apply below_alloc | apply pw_below_drewN | apply below_drew1) | exact HB.out))) : w.heap.size ≤ gb701)); have n3_ := Aside0.mk ((by rw [hg]; exact (below_size (by repeat (first | (with_reducible first | exact HB.out | apply below_alloc | apply pw_below_drewN | apply below_drew1) | exact HB.out))) : w.heap.size ≤ gb701)); clear HB; have HB := n0_; have BK701 := n1_; have GW701 := n2_; have GE701 := n3_; clear n0_ n1_ n2_ n3_; clear hb hbox hg) | ((with_reducible refine gate_dst (N := 3) rfl ?_); refine box_event ?hg (N := 3) ?hd (cs := #[.string a1_0, .int .i64 a1_1, .int .i64 a1_2, .int .i64 a1_3, .int .i64 a1_4]) (t := 37) ?hr ?_; (case hd => rfl); (case hg => rfl); (case hr => first | (go_simp; done) | (go_simp; rfl)); intro gb702 hg w9 hbox hb; have n0_ := Aside0.mk (blk_below (g := gb701) (o := .cells #[.string a0_0, .int .i64 a0_1, .int .i64 a0_2, .int .i64 a0_3, .int .i64 a0_4] 37 (0, 0)) (by (with_reducible repeat (first | refine blk_drewN ?_ _ | refine blk_drew ?_ | refine blk_alloc ?_ _)); exact BK701.out) hb); have n1_ := Aside0.mk (below_step (by repeat (first | (with_reducible first | exact HB.out | apply below_alloc | apply pw_below_drewN | apply below_drew1 | refine below_set ?_ GE701.out) | exact HB.out)) hb); have n2_ := Aside0.mk (hbox); have n3_ := Aside0.mk ((by rw [hg]; exact (below_size (by repeat (first | (with_reducible first | exact HB.out | apply below_alloc | apply pw_below_drewN | apply below_drew1 | refine below_set ?_ GE701.out) | exact HB.out))) : w.heap.size ≤ gb702)); have n4_ := Aside0.mk ((by rw [hg]; exact (below_size (by repeat (first | (with_reducible first | exact HB.out | apply below_alloc | apply pw_below_drewN | apply below_drew1 | refine below_set ?_ GE701.out) | exact HB.out))) : w.heap.size ≤ gb702)); have n5_ := Aside0.mk ((by rw [hg]; exact Nat.ne_of_lt (blk_lt (g := gb701) (o := .cells #[.string a0_0, .int .i64 a0_1, .int .i64 a0_2, .int .i64 a0_3, .int .i64 a0_4] 37 (0, 0)) (by (with_reducible repeat (first | refine blk_drewN ?_ _ | refine blk_drew ?_ | refine blk_alloc ?_ _)); exact BK701.out)) : gb701 ≠ gb702)); have n6_ := Aside0.mk ((by rw [hg]; exact Nat.ne_of_gt (blk_lt (g := gb701) (o := .cells #[.string a0_0, .int .i64 a0_1, .int .i64 a0_2, .int .i64 a0_3, .int .i64 a0_4] 37 (0, 0)) (by (with_reducible repeat (first | refine blk_drewN ?_ _ | refine blk_drew ?_ | refine blk_alloc ?_ _)); exact BK701.out)) : gb702 ≠ gb701)); clear BK701; clear HB; have BK701 := n0_; have HB := n1_; have BK702 := n2_; have GW702 := n3_; have GE702 := n4_; have NB701_702 := n5_; have NB702_701 := n6_; clear n0_ n1_ n2_ n3_ n4_ n5_ n6_; clear hb hbox hg; have hnb10 := NB701_702.out; have hnc10 := NB702_701.out; have hcz11_0 : w9.cell? ⟨gb701, 0, none⟩ = some (.string a0_0) := (blk_cell BK701.out 0).trans rfl; have hcz11_1 : w9.cell? ⟨gb701, 1, none⟩ = some (.int .i64 a0_1) := (blk_cell BK701.out 1).trans rfl; have hcz11_2 : w9.cell? ⟨gb701, 2, none⟩ = some (.int .i64 a0_2) := (blk_cell BK701.out 2).trans rfl; have hcz11_3 : w9.cell? ⟨gb701, 3, none⟩ = some (.int .i64 a0_3) := (blk_cell BK701.out 3).trans rfl; have hcz11_4 : w9.cell? ⟨gb701, 4, none⟩ = some (.int .i64 a0_4) := (blk_cell BK701.out 4).trans rfl; have hfz11_0 := blk_frozen BK701.out 0; have hfz11_1 := blk_frozen BK701.out 1; have hfz11_2 := blk_frozen BK701.out 2; have hfz11_3 := blk_frozen BK701.out 3; have hfz11_4 := blk_frozen BK701.out 4) | ((with_reducible refine gate_callee (f := 49) rfl ?_); refine goesL_ (some 7) rfl rfl Try.func49 (by kernel_rfl) rfl #[.agg #[.string a0_0, .int .i64 a0_1, .int .i64 a0_2, .int .i64 a0_3, .int .i64 a0_4]] rfl (by (try simp only [List.map_toArray, List.map_cons, List.map_nil]); first | done | rfl | (simp only [List.length_drop, List.length_take]; rfl)) ?_; (with_reducible refine (spec_cdGood.calls k a0_0 a0_1 a0_2 a0_3 a0_4 true _ A3.out).mono ?_); rintro e w12 ⟨rfl, hb⟩; refine ⟨_, rfl, ?_⟩; have n0_ := Aside0.mk (blk_below (g := gb701) (o := .cells #[.string a0_0, .int .i64 a0_1, .int .i64 a0_2, .int .i64 a0_3, .int .i64 a0_4] 37 (0, 0)) (by (with_reducible repeat (first | refine blk_drewN ?_ _ | refine blk_drew ?_ | refine blk_alloc ?_ _)); exact BK701.out) hb); have n1_ := Aside0.mk (blk_below (g := gb702) (o := .cells #[.string a1_0, .int .i64 a1_1, .int .i64 a1_2, .int .i64 a1_3, .int .i64 a1_4] 37 (0, 0)) (by (with_reducible repeat (first | refine blk_drewN ?_ _ | refine blk_drew ?_ | refine blk_alloc ?_ _)); exact BK702.out) hb); have n2_ := Aside0.mk (below_step (by repeat (first | (with_reducible first | exact HB.out | apply below_alloc | apply pw_below_drewN | apply below_drew1 | refine below_set ?_ GE701.out | refine below_set ?_ GE702.out) | exact HB.out)) hb); clear BK701; clear BK702; clear HB; have BK701 := n0_; have BK702 := n1_; have HB := n2_; clear n0_ n1_ n2_; (try clear hb); (try clear hb2); (try clear hk); (try clear hi); have hcz13_0 : w12.cell? ⟨gb702, 0, none⟩ = some (.string a1_0) := (blk_cell BK702.out 0).trans rfl; have hcz13_1 : w12.cell? ⟨gb702, 1, none⟩ = some (.int .i64 a1_1) := (blk_cell BK702.out 1).trans rfl; have hcz13_2 : w12.cell? ⟨gb702, 2, none⟩ = some (.int .i64 a1_2) := (blk_cell BK702.out 2).trans rfl; have hcz13_3 : w12.cell? ⟨gb702, 3, none⟩ = some (.int .i64 a1_3) := (blk_cell BK702.out 3).trans rfl; have hcz13_4 : w12.cell? ⟨gb702, 4, none⟩ = some (.int .i64 a1_4) := (blk_cell BK702.out 4).trans rfl; have hfz13_0 := blk_frozen BK702.out 0; have hfz13_1 := blk_frozen BK702.out 1; have hfz13_2 := blk_frozen BK702.out 2; have hfz13_3 := blk_frozen BK702.out 3; have hfz13_4 := blk_frozen BK702.out 4) | (go_at_call 49; (with_reducible refine (spec_cdGood.calls k a1_0 a1_1 a1_2 a1_3 a1_4 true _ A5.out).mono ?_); rintro e w14 ⟨rfl, hb⟩; have n0_ := Aside0.mk (blk_below (g := gb701) (o := .cells #[.string a0_0, .int .i64 a0_1, .int .i64 a0_2, .int .i64 a0_3, .int .i64 a0_4] 37 (0, 0)) (by (with_reducible repeat (first | refine blk_drewN ?_ _ | refine blk_drew ?_ | refine blk_alloc ?_ _)); exact BK701.out) hb); have n1_ := Aside0.mk (blk_below (g := gb702) (o := .cells #[.string a1_0, .int .i64 a1_1, .int .i64 a1_2, .int .i64 a1_3, .int .i64 a1_4] 37 (0, 0)) (by (with_reducible repeat (first | refine blk_drewN ?_ _ | refine blk_drew ?_ | refine blk_alloc ?_ _)); exact BK702.out) hb); have n2_ := Aside0.mk (below_step (by repeat (first | (with_reducible first | exact HB.out | apply below_alloc | apply pw_below_drewN | apply below_drew1 | refine below_set ?_ GE701.out | refine below_set ?_ GE702.out) | exact HB.out)) hb); clear BK701; clear BK702; clear HB; have BK701 := n0_; have BK702 := n1_; have HB := n2_; clear n0_ n1_ n2_; (try clear hb); (try clear hb2); (try clear hk); (try clear hi); have hcz15_0 : w14.cell? ⟨gb701, 0, none⟩ = some (.string a0_0) := (blk_cell BK701.out 0).trans rfl; have hcz15_1 : w14.cell? ⟨gb701, 1, none⟩ = some (.int .i64 a0_1) := (blk_cell BK701.out 1).trans rfl; have hcz15_2 : w14.cell? ⟨gb701, 2, none⟩ = some (.int .i64 a0_2) := (blk_cell BK701.out 2).trans rfl; have hcz15_3 : w14.cell? ⟨gb701, 3, none⟩ = some (.int .i64 a0_3) := (blk_cell BK701.out 3).trans rfl; have hcz15_4 : w14.cell? ⟨gb701, 4, none⟩ = some (.int .i64 a0_4) := (blk_cell BK701.out 4).trans rfl; have hfz15_0 := blk_frozen BK701.out 0; have hfz15_1 := blk_frozen BK701.out 1; have hfz15_2 := blk_frozen BK701.out 2; have hfz15_3 := blk_frozen BK701.out 3; have hfz15_4 := blk_frozen BK701.out 4; have hcz16_0 : w14.cell? ⟨gb702, 0, none⟩ = some (.string a1_0) := (blk_cell BK702.out 0).trans rfl; have hcz16_1 : w14.cell? ⟨gb702, 1, none⟩ = some (.int .i64 a1_1) := (blk_cell BK702.out 1).trans rfl; have hcz16_2 : w14.cell? ⟨gb702, 2, none⟩ = some (.int .i64 a1_2) := (blk_cell BK702.out 2).trans rfl; have hcz16_3 : w14.cell? ⟨gb702, 3, none⟩ = some (.int .i64 a1_3) := (blk_cell BK702.out 3).trans rfl; have hcz16_4 : w14.cell? ⟨gb702, 4, none⟩ = some (.int .i64 a1_4) := (blk_cell BK702.out 4).trans rfl; have hfz16_0 := blk_frozen BK702.out 0; have hfz16_1 := blk_frozen BK702.out 1; have hfz16_2 := blk_frozen BK702.out 2; have hfz16_3 := blk_frozen BK702.out 3; have hfz16_4 := blk_frozen BK702.out 4) | ((with_reducible refine gate_callee (f := 53) rfl ?_); refine goesL_ (some 16) rfl rfl Try.func53 (by kernel_rfl) rfl #[.agg #[.string a0_0, .int .i64 a0_1, .int .i64 a0_2, .int .i64 a0_3, .int .i64 a0_4], .agg #[.string a1_0, .int .i64 a1_1, .int .i64 a1_2, .int .i64 a1_3, .int .i64 a1_4]] rfl (by (try simp only [List.map_toArray, List.map_cons, List.map_nil]); first | done | rfl | (simp only [List.length_drop, List.length_take]; rfl)) ?_; (with_reducible refine (spec_cdFree.calls k a0_0 a0_1 a0_2 a0_3 a0_4 a1_0 a1_1 a1_2 a1_3 a1_4 t705 _ A7.out).mono ?_); rintro e w17 ⟨rfl, hb⟩; refine ⟨_, rfl, ?_⟩; have n0_ := Aside0.mk (blk_below (g := gb701) (o := .cells #[.string a0_0, .int .i64 a0_1, .int .i64 a0_2, .int .i64 a0_3, .int .i64 a0_4] 37 (0, 0)) (by (with_reducible repeat (first | refine blk_drewN ?_ _ | refine blk_drew ?_ | refine blk_alloc ?_ _)); exact BK701.out) hb); have n1_ := Aside0.mk (blk_below (g := gb702) (o := .cells #[.string a1_0, .int .i64 a1_1, .int .i64 a1_2, .int .i64 a1_3, .int .i64 a1_4] 37 (0, 0)) (by (with_reducible repeat (first | refine blk_drewN ?_ _ | refine blk_drew ?_ | refine blk_alloc ?_ _)); exact BK702.out) hb); have n2_ := Aside0.mk (below_step (by repeat (first | (with_reducible first | exact HB.out | apply below_alloc | apply pw_below_drewN | apply below_drew1 | refine below_set ?_ GE701.out | refine below_set ?_ GE702.out) | exact HB.out)) hb); clear BK701; clear BK702; clear HB; have BK701 := n0_; have BK702 := n1_; have HB := n2_; clear n0_ n1_ n2_; (try clear hb); (try clear hb2); (try clear hk); (try clear hi)))
      go_ret2
      exact ⟨by first | rfl | (simp [errW_none, errW_some] <;> rfl) | (simp [*, errW_none, errW_some] <;> rfl), by repeat (first | (with_reducible first | exact HB.out | apply below_alloc | apply pw_below_drewN | apply below_drew1 | refine below_set ?_ GE701.out | refine below_set ?_ GE702.out) | exact HB.out)⟩
    · replace c6 := Bool.eq_false_iff.mpr c6
      subst c6
      have H1 : (some (false, false)) = some (r1, r2) := by rw [if_neg (show ¬ (false = true) by decide)] at H; exact H
      clear H
      have H := H1
      clear H1
      simp only [Option.some.injEq, Prod.mk.injEq] at H
      obtain ⟨rfl, rfl⟩ := H
      go_enter Try.func23, Try.ntmps23
      go_wp2_with (first | ((with_reducible refine gate_dst (N := 2) rfl ?_); refine box_event ?hg (N := 2) ?hd (cs := #[.string a0_0, .int .i64 a0_1, .int .i64 a0_2, .int .i64 a0_3, .int .i64 a0_4]) (t := 37) ?hr ?_; (case hd => rfl); (case hg => rfl); (case hr => first | (go_simp; done) | (go_simp; rfl)); intro gb701 hg w18 hbox hb; have n0_ := Aside0.mk (below_step (by repeat (first | (with_reducible first | exact HB.out | apply below_alloc | apply pw_below_drewN | apply below_drew1) | exact HB.out)) hb); have n1_ := Aside0.mk (hbox); have n2_ := Aside0.mk ((by rw [hg]; exact (below_size (by repeat (first | (with_reducible first | exact HB.out | apply below_alloc | apply pw_below_drewN | apply below_drew1) | exact HB.out))) : w.heap.size ≤ gb701)); have n3_ := Aside0.mk ((by rw [hg]; exact (below_size (by repeat (first | (with_reducible first | exact HB.out | apply below_alloc | apply pw_below_drewN | apply below_drew1) | exact HB.out))) : w.heap.size ≤ gb701)); clear HB; have HB := n0_; have BK701 := n1_; have GW701 := n2_; have GE701 := n3_; clear n0_ n1_ n2_ n3_; clear hb hbox hg) | ((with_reducible refine gate_dst (N := 3) rfl ?_); refine box_event ?hg (N := 3) ?hd (cs := #[.string a1_0, .int .i64 a1_1, .int .i64 a1_2, .int .i64 a1_3, .int .i64 a1_4]) (t := 37) ?hr ?_; (case hd => rfl); (case hg => rfl); (case hr => first | (go_simp; done) | (go_simp; rfl)); intro gb702 hg w19 hbox hb; have n0_ := Aside0.mk (blk_below (g := gb701) (o := .cells #[.string a0_0, .int .i64 a0_1, .int .i64 a0_2, .int .i64 a0_3, .int .i64 a0_4] 37 (0, 0)) (by (with_reducible repeat (first | refine blk_drewN ?_ _ | refine blk_drew ?_ | refine blk_alloc ?_ _)); exact BK701.out) hb); have n1_ := Aside0.mk (below_step (by repeat (first | (with_reducible first | exact HB.out | apply below_alloc | apply pw_below_drewN | apply below_drew1 | refine below_set ?_ GE701.out) | exact HB.out)) hb); have n2_ := Aside0.mk (hbox); have n3_ := Aside0.mk ((by rw [hg]; exact (below_size (by repeat (first | (with_reducible first | exact HB.out | apply below_alloc | apply pw_below_drewN | apply below_drew1 | refine below_set ?_ GE701.out) | exact HB.out))) : w.heap.size ≤ gb702)); have n4_ := Aside0.mk ((by rw [hg]; exact (below_size (by repeat (first | (with_reducible first | exact HB.out | apply below_alloc | apply pw_below_drewN | apply below_drew1 | refine below_set ?_ GE701.out) | exact HB.out))) : w.heap.size ≤ gb702)); have n5_ := Aside0.mk ((by rw [hg]; exact Nat.ne_of_lt (blk_lt (g := gb701) (o := .cells #[.string a0_0, .int .i64 a0_1, .int .i64 a0_2, .int .i64 a0_3, .int .i64 a0_4] 37 (0, 0)) (by (with_reducible repeat (first | refine blk_drewN ?_ _ | refine blk_drew ?_ | refine blk_alloc ?_ _)); exact BK701.out)) : gb701 ≠ gb702)); have n6_ := Aside0.mk ((by rw [hg]; exact Nat.ne_of_gt (blk_lt (g := gb701) (o := .cells #[.string a0_0, .int .i64 a0_1, .int .i64 a0_2, .int .i64 a0_3, .int .i64 a0_4] 37 (0, 0)) (by (with_reducible repeat (first | refine blk_drewN ?_ _ | refine blk_drew ?_ | refine blk_alloc ?_ _)); exact BK701.out)) : gb702 ≠ gb701)); clear BK701; clear HB; have BK701 := n0_; have HB := n1_; have BK702 := n2_; have GW702 := n3_; have GE702 := n4_; have NB701_702 := n5_; have NB702_701 := n6_; clear n0_ n1_ n2_ n3_ n4_ n5_ n6_; clear hb hbox hg; have hnb20 := NB701_702.out; have hnc20 := NB702_701.out; have hcz21_0 : w19.cell? ⟨gb701, 0, none⟩ = some (.string a0_0) := (blk_cell BK701.out 0).trans rfl; have hcz21_1 : w19.cell? ⟨gb701, 1, none⟩ = some (.int .i64 a0_1) := (blk_cell BK701.out 1).trans rfl; have hcz21_2 : w19.cell? ⟨gb701, 2, none⟩ = some (.int .i64 a0_2) := (blk_cell BK701.out 2).trans rfl; have hcz21_3 : w19.cell? ⟨gb701, 3, none⟩ = some (.int .i64 a0_3) := (blk_cell BK701.out 3).trans rfl; have hcz21_4 : w19.cell? ⟨gb701, 4, none⟩ = some (.int .i64 a0_4) := (blk_cell BK701.out 4).trans rfl; have hfz21_0 := blk_frozen BK701.out 0; have hfz21_1 := blk_frozen BK701.out 1; have hfz21_2 := blk_frozen BK701.out 2; have hfz21_3 := blk_frozen BK701.out 3; have hfz21_4 := blk_frozen BK701.out 4) | ((with_reducible refine gate_callee (f := 49) rfl ?_); refine goesL_ (some 7) rfl rfl Try.func49 (by kernel_rfl) rfl #[.agg #[.string a0_0, .int .i64 a0_1, .int .i64 a0_2, .int .i64 a0_3, .int .i64 a0_4]] rfl (by (try simp only [List.map_toArray, List.map_cons, List.map_nil]); first | done | rfl | (simp only [List.length_drop, List.length_take]; rfl)) ?_; (with_reducible refine (spec_cdGood.calls k a0_0 a0_1 a0_2 a0_3 a0_4 true _ A3.out).mono ?_); rintro e w22 ⟨rfl, hb⟩; refine ⟨_, rfl, ?_⟩; have n0_ := Aside0.mk (blk_below (g := gb701) (o := .cells #[.string a0_0, .int .i64 a0_1, .int .i64 a0_2, .int .i64 a0_3, .int .i64 a0_4] 37 (0, 0)) (by (with_reducible repeat (first | refine blk_drewN ?_ _ | refine blk_drew ?_ | refine blk_alloc ?_ _)); exact BK701.out) hb); have n1_ := Aside0.mk (blk_below (g := gb702) (o := .cells #[.string a1_0, .int .i64 a1_1, .int .i64 a1_2, .int .i64 a1_3, .int .i64 a1_4] 37 (0, 0)) (by (with_reducible repeat (first | refine blk_drewN ?_ _ | refine blk_drew ?_ | refine blk_alloc ?_ _)); exact BK702.out) hb); have n2_ := Aside0.mk (below_step (by repeat (first | (with_reducible first | exact HB.out | apply below_alloc | apply pw_below_drewN | apply below_drew1 | refine below_set ?_ GE701.out | refine below_set ?_ GE702.out) | exact HB.out)) hb); clear BK701; clear BK702; clear HB; have BK701 := n0_; have BK702 := n1_; have HB := n2_; clear n0_ n1_ n2_; (try clear hb); (try clear hb2); (try clear hk); (try clear hi); have hcz23_0 : w22.cell? ⟨gb702, 0, none⟩ = some (.string a1_0) := (blk_cell BK702.out 0).trans rfl; have hcz23_1 : w22.cell? ⟨gb702, 1, none⟩ = some (.int .i64 a1_1) := (blk_cell BK702.out 1).trans rfl; have hcz23_2 : w22.cell? ⟨gb702, 2, none⟩ = some (.int .i64 a1_2) := (blk_cell BK702.out 2).trans rfl; have hcz23_3 : w22.cell? ⟨gb702, 3, none⟩ = some (.int .i64 a1_3) := (blk_cell BK702.out 3).trans rfl; have hcz23_4 : w22.cell? ⟨gb702, 4, none⟩ = some (.int .i64 a1_4) := (blk_cell BK702.out 4).trans rfl; have hfz23_0 := blk_frozen BK702.out 0; have hfz23_1 := blk_frozen BK702.out 1; have hfz23_2 := blk_frozen BK702.out 2; have hfz23_3 := blk_frozen BK702.out 3; have hfz23_4 := blk_frozen BK702.out 4) | (go_at_call 49; (with_reducible refine (spec_cdGood.calls k a1_0 a1_1 a1_2 a1_3 a1_4 false _ A5.out).mono ?_); rintro e w24 ⟨rfl, hb⟩; have n0_ := Aside0.mk (blk_below (g := gb701) (o := .cells #[.string a0_0, .int .i64 a0_1, .int .i64 a0_2, .int .i64 a0_3, .int .i64 a0_4] 37 (0, 0)) (by (with_reducible repeat (first | refine blk_drewN ?_ _ | refine blk_drew ?_ | refine blk_alloc ?_ _)); exact BK701.out) hb); have n1_ := Aside0.mk (blk_below (g := gb702) (o := .cells #[.string a1_0, .int .i64 a1_1, .int .i64 a1_2, .int .i64 a1_3, .int .i64 a1_4] 37 (0, 0)) (by (with_reducible repeat (first | refine blk_drewN ?_ _ | refine blk_drew ?_ | refine blk_alloc ?_ _)); exact BK702.out) hb); have n2_ := Aside0.mk (below_step (by repeat (first | (with_reducible first | exact HB.out | apply below_alloc | apply pw_below_drewN | apply below_drew1 | refine below_set ?_ GE701.out | refine below_set ?_ GE702.out) | exact HB.out)) hb); clear BK701; clear BK702; clear HB; have BK701 := n0_; have BK702 := n1_; have HB := n2_; clear n0_ n1_ n2_; (try clear hb); (try clear hb2); (try clear hk); (try clear hi)))
      go_ret2
      exact ⟨by first | rfl | (simp [errW_none, errW_some] <;> rfl) | (simp [*, errW_none, errW_some] <;> rfl), by repeat (first | (with_reducible first | exact HB.out | apply below_alloc | apply pw_below_drewN | apply below_drew1 | refine below_set ?_ GE701.out | refine below_set ?_ GE702.out) | exact HB.out)⟩
  · replace c4 := Bool.eq_false_iff.mpr c4
    subst c4
    have H1 : (some (false, false)) = some (r1, r2) := by rw [if_neg (show ¬ (false = true) by decide)] at H; exact H
    clear H
    have H := H1
    clear H1
    simp only [Option.some.injEq, Prod.mk.injEq] at H
    obtain ⟨rfl, rfl⟩ := H
    go_enter Try.func23, Try.ntmps23
    go_wp2_with (first | ((with_reducible refine gate_dst (N := 2) rfl ?_); refine box_event ?hg (N := 2) ?hd (cs := #[.string a0_0, .int .i64 a0_1, .int .i64 a0_2, .int .i64 a0_3, .int .i64 a0_4]) (t := 37) ?hr ?_; (case hd => rfl); (case hg => rfl); (case hr => first | (go_simp; done) | (go_simp; rfl)); intro gb701 hg w25 hbox hb; have n0_ := Aside0.mk (below_step (by repeat (first | (with_reducible first | exact HB.out | apply below_alloc | apply pw_below_drewN | apply below_drew1) | exact HB.out)) hb); have n1_ := Aside0.mk (hbox); have n2_ := Aside0.mk ((by rw [hg]; exact (below_size (by repeat (first | (with_reducible first | exact HB.out | apply below_alloc | apply pw_below_drewN | apply below_drew1) | exact HB.out))) : w.heap.size ≤ gb701)); have n3_ := Aside0.mk ((by rw [hg]; exact (below_size (by repeat (first | (with_reducible first | exact HB.out | apply below_alloc | apply pw_below_drewN | apply below_drew1) | exact HB.out))) : w.heap.size ≤ gb701)); clear HB; have HB := n0_; have BK701 := n1_; have GW701 := n2_; have GE701 := n3_; clear n0_ n1_ n2_ n3_; clear hb hbox hg) | ((with_reducible refine gate_dst (N := 3) rfl ?_); refine box_event ?hg (N := 3) ?hd (cs := #[.string a1_0, .int .i64 a1_1, .int .i64 a1_2, .int .i64 a1_3, .int .i64 a1_4]) (t := 37) ?hr ?_; (case hd => rfl); (case hg => rfl); (case hr => first | (go_simp; done) | (go_simp; rfl)); intro gb702 hg w26 hbox hb; have n0_ := Aside0.mk (blk_below (g := gb701) (o := .cells #[.string a0_0, .int .i64 a0_1, .int .i64 a0_2, .int .i64 a0_3, .int .i64 a0_4] 37 (0, 0)) (by (with_reducible repeat (first | refine blk_drewN ?_ _ | refine blk_drew ?_ | refine blk_alloc ?_ _)); exact BK701.out) hb); have n1_ := Aside0.mk (below_step (by repeat (first | (with_reducible first | exact HB.out | apply below_alloc | apply pw_below_drewN | apply below_drew1 | refine below_set ?_ GE701.out) | exact HB.out)) hb); have n2_ := Aside0.mk (hbox); have n3_ := Aside0.mk ((by rw [hg]; exact (below_size (by repeat (first | (with_reducible first | exact HB.out | apply below_alloc | apply pw_below_drewN | apply below_drew1 | refine below_set ?_ GE701.out) | exact HB.out))) : w.heap.size ≤ gb702)); have n4_ := Aside0.mk ((by rw [hg]; exact (below_size (by repeat (first | (with_reducible first | exact HB.out | apply below_alloc | apply pw_below_drewN | apply below_drew1 | refine below_set ?_ GE701.out) | exact HB.out))) : w.heap.size ≤ gb702)); have n5_ := Aside0.mk ((by rw [hg]; exact Nat.ne_of_lt (blk_lt (g := gb701) (o := .cells #[.string a0_0, .int .i64 a0_1, .int .i64 a0_2, .int .i64 a0_3, .int .i64 a0_4] 37 (0, 0)) (by (with_reducible repeat (first | refine blk_drewN ?_ _ | refine blk_drew ?_ | refine blk_alloc ?_ _)); exact BK701.out)) : gb701 ≠ gb702)); have n6_ := Aside0.mk ((by rw [hg]; exact Nat.ne_of_gt (blk_lt (g := gb701) (o := .cells #[.string a0_0, .int .i64 a0_1, .int .i64 a0_2, .int .i64 a0_3, .int .i64 a0_4] 37 (0, 0)) (by (with_reducible repeat (first | refine blk_drewN ?_ _ | refine blk_drew ?_ | refine blk_alloc ?_ _)); exact BK701.out)) : gb702 ≠ gb701)); clear BK701; clear HB; have BK701 := n0_; have HB := n1_; have BK702 := n2_; have GW702 := n3_; have GE702 := n4_; have NB701_702 := n5_; have NB702_701 := n6_; clear n0_ n1_ n2_ n3_ n4_ n5_ n6_; clear hb hbox hg; have hnb27 := NB701_702.out; have hnc27 := NB702_701.out; have hcz28_0 : w26.cell? ⟨gb701, 0, none⟩ = some (.string a0_0) := (blk_cell BK701.out 0).trans rfl; have hcz28_1 : w26.cell? ⟨gb701, 1, none⟩ = some (.int .i64 a0_1) := (blk_cell BK701.out 1).trans rfl; have hcz28_2 : w26.cell? ⟨gb701, 2, none⟩ = some (.int .i64 a0_2) := (blk_cell BK701.out 2).trans rfl; have hcz28_3 : w26.cell? ⟨gb701, 3, none⟩ = some (.int .i64 a0_3) := (blk_cell BK701.out 3).trans rfl; have hcz28_4 : w26.cell? ⟨gb701, 4, none⟩ = some (.int .i64 a0_4) := (blk_cell BK701.out 4).trans rfl; have hfz28_0 := blk_frozen BK701.out 0; have hfz28_1 := blk_frozen BK701.out 1; have hfz28_2 := blk_frozen BK701.out 2; have hfz28_3 := blk_frozen BK701.out 3; have hfz28_4 := blk_frozen BK701.out 4) | ((with_reducible refine gate_callee (f := 49) rfl ?_); refine goesL_ (some 7) rfl rfl Try.func49 (by kernel_rfl) rfl #[.agg #[.string a0_0, .int .i64 a0_1, .int .i64 a0_2, .int .i64 a0_3, .int .i64 a0_4]] rfl (by (try simp only [List.map_toArray, List.map_cons, List.map_nil]); first | done | rfl | (simp only [List.length_drop, List.length_take]; rfl)) ?_; (with_reducible refine (spec_cdGood.calls k a0_0 a0_1 a0_2 a0_3 a0_4 false _ A3.out).mono ?_); rintro e w29 ⟨rfl, hb⟩; refine ⟨_, rfl, ?_⟩; have n0_ := Aside0.mk (blk_below (g := gb701) (o := .cells #[.string a0_0, .int .i64 a0_1, .int .i64 a0_2, .int .i64 a0_3, .int .i64 a0_4] 37 (0, 0)) (by (with_reducible repeat (first | refine blk_drewN ?_ _ | refine blk_drew ?_ | refine blk_alloc ?_ _)); exact BK701.out) hb); have n1_ := Aside0.mk (blk_below (g := gb702) (o := .cells #[.string a1_0, .int .i64 a1_1, .int .i64 a1_2, .int .i64 a1_3, .int .i64 a1_4] 37 (0, 0)) (by (with_reducible repeat (first | refine blk_drewN ?_ _ | refine blk_drew ?_ | refine blk_alloc ?_ _)); exact BK702.out) hb); have n2_ := Aside0.mk (below_step (by repeat (first | (with_reducible first | exact HB.out | apply below_alloc | apply pw_below_drewN | apply below_drew1 | refine below_set ?_ GE701.out | refine below_set ?_ GE702.out) | exact HB.out)) hb); clear BK701; clear BK702; clear HB; have BK701 := n0_; have BK702 := n1_; have HB := n2_; clear n0_ n1_ n2_; (try clear hb); (try clear hb2); (try clear hk); (try clear hi)))
    go_ret2
    exact ⟨by first | rfl | (simp [errW_none, errW_some] <;> rfl) | (simp [*, errW_none, errW_some] <;> rfl), by repeat (first | (with_reducible first | exact HB.out | apply below_alloc | apply pw_below_drewN | apply below_drew1 | refine below_set ?_ GE701.out | refine below_set ?_ GE702.out) | exact HB.out)⟩

/-! ### impl_AreIndependent: function 24 -/
def impl_AreIndependent.f (k : Nat) (a0_0 : ByteArray) (a0_1 : Int) (a0_2 : Int) (a0_3 : Int) (a0_4 : Int) (a1_0 : ByteArray) (a1_1 : Int) (a1_2 : Int) (a1_3 : Int) (a1_4 : Int) : Option (Bool × Bool) := (impl_IsInstr.f k a0_0 a0_1 a0_2 a0_3 a0_4).bind fun t718 => (if t718 = true then ((impl_IsInstr.f k a1_0 a1_1 a1_2 a1_3 a1_4).bind fun t719 => (if t719 = true then ((impl_independent.f k a0_0 a0_1 a0_2 a0_3 a0_4 a1_0 a1_1 a1_2 a1_3 a1_4).bind fun t720 => (some (t720, true))) else (some (false, false)))) else (some (false, false)))
theorem impl_AreIndependent.mono : ∀ a0 a1 a2 a3 a4 a5 a6 a7 a8 a9 k, LeO (impl_AreIndependent.f k a0 a1 a2 a3 a4 a5 a6 a7 a8 a9) (impl_AreIndependent.f (k + 1) a0 a1 a2 a3 a4 a5 a6 a7 a8 a9) := by
  intro a0 a1 a2 a3 a4 a5 a6 a7 a8 a9 k
  unfold impl_AreIndependent.f
  repeat' first
      | (with_reducible exact impl_IsInstr.mono _ _ _ _ _ _)
      | (with_reducible exact impl_independent.mono _ _ _ _ _ _ _ _ _ _ _)
      | (with_reducible exact LeO.refl _)
      | (with_reducible exact LeO.none _)
      | (with_reducible refine LeO.ite ?_ ?_)
      | (with_reducible refine LeO.bind ?_ (fun _ => ?_))
      | exact impl_IsInstr.mono _ _ _ _ _ _
      | exact impl_independent.mono _ _ _ _ _ _ _ _ _ _ _
      | exact LeO.none _
      | refine LeO.ite ?_ ?_
      | refine LeO.bind ?_ (fun _ => ?_)
set_option maxHeartbeats 8000000 in
set_option maxRecDepth 100000 in
theorem impl_AreIndependent.calls (k : Nat) (a0_0 : ByteArray) (a0_1 : Int) (a0_2 : Int) (a0_3 : Int) (a0_4 : Int) (a1_0 : ByteArray) (a1_1 : Int) (a1_2 : Int) (a1_3 : Int) (a1_4 : Int) (r1 : Bool) (r2 : Bool) (w : World) (h : impl_AreIndependent.f k a0_0 a0_1 a0_2 a0_3 a0_4 a1_0 a1_1 a1_2 a1_3 a1_4 = some (r1, r2)) :
    Calls Try.prog 24 #[.agg #[.string a0_0, .int .i64 a0_1, .int .i64 a0_2, .int .i64 a0_3, .int .i64 a0_4], .agg #[.string a1_0, .int .i64 a1_1, .int .i64 a1_2, .int .i64 a1_3, .int .i64 a1_4]] w fun e w' => e = .returned (.tuple #[.bool r1, .bool r2]) ∧ Below w.heap.size w w' := by
  have hu37 := Try.underlying37
  have HB := Aside0.mk (Below.refl w.heap.size w)
  have H : ((impl_IsInstr.f k a0_0 a0_1 a0_2 a0_3 a0_4).bind fun t718 => (if t718 = true then ((impl_IsInstr.f k a1_0 a1_1 a1_2 a1_3 a1_4).bind fun t719 => (if t719 = true then ((impl_independent.f k a0_0 a0_1 a0_2 a0_3 a0_4 a1_0 a1_1 a1_2 a1_3 a1_4).bind fun t720 => (some (t720, true))) else (some (false, false)))) else (some (false, false)))) = some (r1, r2) := h
  clear h
  replace H := Option.bind_eq_some_iff.mp H
  obtain ⟨t718, A30, H⟩ := H
  replace H : (if t718 = true then ((impl_IsInstr.f k a1_0 a1_1 a1_2 a1_3 a1_4).bind fun t719 => (if t719 = true then ((impl_independent.f k a0_0 a0_1 a0_2 a0_3 a0_4 a1_0 a1_1 a1_2 a1_3 a1_4).bind fun t720 => (some (t720, true))) else (some (false, false)))) else (some (false, false))) = some (r1, r2) := H
  have A3 := Aside0.mk A30
  clear A30
  by_cases c4 : t718 = true
  · subst c4
    have H1 : ((impl_IsInstr.f k a1_0 a1_1 a1_2 a1_3 a1_4).bind fun t719 => (if t719 = true then ((impl_independent.f k a0_0 a0_1 a0_2 a0_3 a0_4 a1_0 a1_1 a1_2 a1_3 a1_4).bind fun t720 => (some (t720, true))) else (some (false, false)))) = some (r1, r2) := by rw [if_pos rfl] at H; exact H
    clear H
    have H := H1
    clear H1
    replace H := Option.bind_eq_some_iff.mp H
    obtain ⟨t719, A50, H⟩ := H
    replace H : (if t719 = true then ((impl_independent.f k a0_0 a0_1 a0_2 a0_3 a0_4 a1_0 a1_1 a1_2 a1_3 a1_4).bind fun t720 => (some (t720, true))) else (some (false, false))) = some (r1, r2) := H
    have A5 := Aside0.mk A50
    clear A50
    by_cases c6 : t719 = true
    · subst c6
      have H1 : ((impl_independent.f k a0_0 a0_1 a0_2 a0_3 a0_4 a1_0 a1_1 a1_2 a1_3 a1_4).bind fun t720 => (some (t720, true))) = some (r1, r2) := by rw [if_pos rfl] at H; exact H
      clear H
      have H := H1
      clear H1
      replace H := Option.bind_eq_some_iff.mp H
      obtain ⟨t720, A70, H⟩ := H
      replace H : (some (t720, true)) = some (r1, r2) := H
      have A7 := Aside0.mk A70
      clear A70
      simp only [Option.some.injEq, Prod.mk.injEq] at H
      obtain ⟨rfl, rfl⟩ := H
      go_enter Try.func24, Try.ntmps24
      go_wp2_with (first | ((with_reducible refine gate_dst (N := 2) rfl ?_); refine box_event ?hg (N := 2) ?hd (cs := #[.string a0_0, .int .i64 a0_1, .int .i64 a0_2, .int .i64 a0_3, .int .i64 a0_4]) (t := 37) ?hr ?_; (case hd => rfl); (case hg => rfl); (case hr => first | (go_simp; done) | (go_simp; rfl)); intro gb716 hg w8 hbox hb; have n0_ := Aside0.mk (below_step (by repeat (first | (with_reducible first | exact HB.out | apply below_alloc | apply pw_below_drewN | apply below_drew1) | exact HB.out)) hb); have n1_ := Aside0.mk (hbox); have n2_ := Aside0.mk ((by rw [hg]; exact (below_size (by repeat (first | (with_reducible first | exact HB.out | apply below_alloc | apply pw_below_drewN | apply below_drew1) | exact HB.out))) : w.heap.size ≤ gb716)); have n3_ := Aside0.mk ((by rw [hg]; exact (below_size (by repeat (first | (with_reducible first | exact HB.out | apply below_alloc | apply pw_below_drewN | apply below_drew1) | exact HB.out))) : w.heap.size ≤ gb716)); clear HB; have HB := n0_; have BK716 := n1_; have GW716 := n2_; have GE716 := n3_; clear n0_ n1_ n2_ n3_; clear hb hbox hg) | ((with_reducible refine gate_dst (N := 3) rfl ?_); refine box_event ?hg (N := 3) ?hd (cs := #[.string a1_0, .int .i64 a1_1, .int .i64 a1_2, .int .i64 a1_3, .int .i64 a1_4]) (t := 37) ?hr ?_; (case hd => rfl); (case hg => rfl); (case hr => first | (go_simp; done) | (go_simp; rfl)); intro gb717 hg w9 hbox hb; have n0_ := Aside0.mk (blk_below (g := gb716) (o := .cells #[.string a0_0, .int .i64 a0_1, .int .i64 a0_2, .int .i64 a0_3, .int .i64 a0_4] 37 (0, 0)) (by (with_reducible repeat (first | refine blk_drewN ?_ _ | refine blk_drew ?_ | refine blk_alloc ?_ _)); exact BK716.out) hb); have n1_ := Aside0.mk (below_step (by repeat (first | (with_reducible first | exact HB.out | apply below_alloc | apply pw_below_drewN | apply below_drew1 | refine below_set ?_ GE716.out) | exact HB.out)) hb); have n2_ := Aside0.mk (hbox); have n3_ := Aside0.mk ((by rw [hg]; exact (below_size (by repeat (first | (with_reducible first | exact HB.out | apply below_alloc | apply pw_below_drewN | apply below_drew1 | refine below_set ?_ GE716.out) | exact HB.out))) : w.heap.size ≤ gb717)); have n4_ := Aside0.mk ((by rw [hg]; exact (below_size (by repeat (first | (with_reducible first | exact HB.out | apply below_alloc | apply pw_below_drewN | apply below_drew1 | refine below_set ?_ GE716.out) | exact HB.out))) : w.heap.size ≤ gb717)); have n5_ := Aside0.mk ((by rw [hg]; exact Nat.ne_of_lt (blk_lt (g := gb716) (o := .cells #[.string a0_0, .int .i64 a0_1, .int .i64 a0_2, .int .i64 a0_3, .int .i64 a0_4] 37 (0, 0)) (by (with_reducible repeat (first | refine blk_drewN ?_ _ | refine blk_drew ?_ | refine blk_alloc ?_ _)); exact BK716.out)) : gb716 ≠ gb717)); have n6_ := Aside0.mk ((by rw [hg]; exact Nat.ne_of_gt (blk_lt (g := gb716) (o := .cells #[.string a0_0, .int .i64 a0_1, .int .i64 a0_2, .int .i64 a0_3, .int .i64 a0_4] 37 (0, 0)) (by (with_reducible repeat (first | refine blk_drewN ?_ _ | refine blk_drew ?_ | refine blk_alloc ?_ _)); exact BK716.out)) : gb717 ≠ gb716)); clear BK716; clear HB; have BK716 := n0_; have HB := n1_; have BK717 := n2_; have GW717 := n3_; have GE717 := n4_; have NB716_717 := n5_; have NB717_716 := n6_; clear n0_ n1_ n2_ n3_ n4_ n5_ n6_; clear hb hbox hg; have hnb10 := NB716_717.out; have hnc10 := NB717_716.out; have hcz11_0 : w9.cell? ⟨gb716, 0, none⟩ = some (.string a0_0) := (blk_cell BK716.out 0).trans rfl; have hcz11_1 : w9.cell? ⟨gb716, 1, none⟩ = some (.int .i64 a0_1) := (blk_cell BK716.out 1).trans rfl; have hcz11_2 : w9.cell? ⟨gb716, 2, none⟩ = some (.int .i64 a0_2) := (blk_cell BK716.out 2).trans rfl; have hcz11_3 : w9.cell? ⟨gb716, 3, none⟩ = some (.int .i64 a0_3) := (blk_cell BK716.out 3).trans rfl; have hcz11_4 : w9.cell? ⟨gb716, 4, none⟩ = some (.int .i64 a0_4) := (blk_cell BK716.out 4).trans rfl; have hfz11_0 := blk_frozen BK716.out 0; have hfz11_1 := blk_frozen BK716.out 1; have hfz11_2 := blk_frozen BK716.out 2; have hfz11_3 := blk_frozen BK716.out 3; have hfz11_4 := blk_frozen BK716.out 4) | ((with_reducible refine gate_callee (f := 51) rfl ?_); refine goesL_ (some 7) rfl rfl Try.func51 (by kernel_rfl) rfl #[.agg #[.string a0_0, .int .i64 a0_1, .int .i64 a0_2, .int .i64 a0_3, .int .i64 a0_4]] rfl (by (try simp only [List.map_toArray, List.map_cons, List.map_nil]); first | done | rfl | (simp only [List.length_drop, List.length_take]; rfl)) ?_; (with_reducible refine (impl_IsInstr.calls k a0_0 a0_1 a0_2 a0_3 a0_4 true _ A3.out).mono ?_); rintro e w12 ⟨rfl, hb⟩; refine ⟨_, rfl, ?_⟩; have n0_ := Aside0.mk (blk_below (g := gb716) (o := .cells #[.string a0_0, .int .i64 a0_1, .int .i64 a0_2, .int .i64 a0_3, .int .i64 a0_4] 37 (0, 0)) (by (with_reducible repeat (first | refine blk_drewN ?_ _ | refine blk_drew ?_ | refine blk_alloc ?_ _)); exact BK716.out) hb); have n1_ := Aside0.mk (blk_below (g := gb717) (o := .cells #[.string a1_0, .int .i64 a1_1, .int .i64 a1_2, .int .i64 a1_3, .int .i64 a1_4] 37 (0, 0)) (by (with_reducible repeat (first | refine blk_drewN ?_ _ | refine blk_drew ?_ | refine blk_alloc ?_ _)); exact BK717.out) hb); have n2_ := Aside0.mk (below_step (by repeat (first | (with_reducible first | exact HB.out | apply below_alloc | apply pw_below_drewN | apply below_drew1 | refine below_set ?_ GE716.out | refine below_set ?_ GE717.out) | exact HB.out)) hb); clear BK716; clear BK717; clear HB; have BK716 := n0_; have BK717 := n1_; have HB := n2_; clear n0_ n1_ n2_; (try clear hb); (try clear hb2); (try clear hk); (try clear hi); have hcz13_0 : w12.cell? ⟨gb717, 0, none⟩ = some (.string a1_0) := (blk_cell BK717.out 0).trans rfl; have hcz13_1 : w12.cell? ⟨gb717, 1, none⟩ = some (.int .i64 a1_1) := (blk_cell BK717.out 1).trans rfl; have hcz13_2 : w12.cell? ⟨gb717, 2, none⟩ = some (.int .i64 a1_2) := (blk_cell BK717.out 2).trans rfl; have hcz13_3 : w12.cell? ⟨gb717, 3, none⟩ = some (.int .i64 a1_3) := (blk_cell BK717.out 3).trans rfl; have hcz13_4 : w12.cell? ⟨gb717, 4, none⟩ = some (.int .i64 a1_4) := (blk_cell BK717.out 4).trans rfl; have hfz13_0 := blk_frozen BK717.out 0; have hfz13_1 := blk_frozen BK717.out 1; have hfz13_2 := blk_frozen BK717.out 2; have hfz13_3 := blk_frozen BK717.out 3; have hfz13_4 := blk_frozen BK717.out 4) | (go_at_call 51; (with_reducible refine (impl_IsInstr.calls k a1_0 a1_1 a1_2 a1_3 a1_4 true _ A5.out).mono ?_); rintro e w14 ⟨rfl, hb⟩; have n0_ := Aside0.mk (blk_below (g := gb716) (o := .cells #[.string a0_0, .int .i64 a0_1, .int .i64 a0_2, .int .i64 a0_3, .int .i64 a0_4] 37 (0, 0)) (by (with_reducible repeat (first | refine blk_drewN ?_ _ | refine blk_drew ?_ | refine blk_alloc ?_ _)); exact BK716.out) hb); have n1_ := Aside0.mk (blk_below (g := gb717) (o := .cells #[.string a1_0, .int .i64 a1_1, .int .i64 a1_2, .int .i64 a1_3, .int .i64 a1_4] 37 (0, 0)) (by (with_reducible repeat (first | refine blk_drewN ?_ _ | refine blk_drew ?_ | refine blk_alloc ?_ _)); exact BK717.out) hb); have n2_ := Aside0.mk (below_step (by repeat (first | (with_reducible first | exact HB.out | apply below_alloc | apply pw_below_drewN | apply below_drew1 | refine below_set ?_ GE716.out | refine below_set ?_ GE717.out) | exact HB.out)) hb); clear BK716; clear BK717; clear HB; have BK716 := n0_; have BK717 := n1_; have HB := n2_; clear n0_ n1_ n2_; (try clear hb); (try clear hb2); (try clear hk); (try clear hi); have hcz15_0 : w14.cell? ⟨gb716, 0, none⟩ = some (.string a0_0) := (blk_cell BK716.out 0).trans rfl; have hcz15_1 : w14.cell? ⟨gb716, 1, none⟩ = some (.int .i64 a0_1) := (blk_cell BK716.out 1).trans rfl; have hcz15_2 : w14.cell? ⟨gb716, 2, none⟩ = some (.int .i64 a0_2) := (blk_cell BK716.out 2).trans rfl; have hcz15_3 : w14.cell? ⟨gb716, 3, none⟩ = some (.int .i64 a0_3) := (blk_cell BK716.out 3).trans rfl; have hcz15_4 : w14.cell? ⟨gb716, 4, none⟩ = some (.int .i64 a0_4) := (blk_cell BK716.out 4).trans rfl; have hfz15_0 := blk_frozen BK716.out 0; have hfz15_1 := blk_frozen BK716.out 1; have hfz15_2 := blk_frozen BK716.out 2; have hfz15_3 := blk_frozen BK716.out 3; have hfz15_4 := blk_frozen BK716.out 4; have hcz16_0 : w14.cell? ⟨gb717, 0, none⟩ = some (.string a1_0) := (blk_cell BK717.out 0).trans rfl; have hcz16_1 : w14.cell? ⟨gb717, 1, none⟩ = some (.int .i64 a1_1) := (blk_cell BK717.out 1).trans rfl; have hcz16_2 : w14.cell? ⟨gb717, 2, none⟩ = some (.int .i64 a1_2) := (blk_cell BK717.out 2).trans rfl; have hcz16_3 : w14.cell? ⟨gb717, 3, none⟩ = some (.int .i64 a1_3) := (blk_cell BK717.out 3).trans rfl; have hcz16_4 : w14.cell? ⟨gb717, 4, none⟩ = some (.int .i64 a1_4) := (blk_cell BK717.out 4).trans rfl; have hfz16_0 := blk_frozen BK717.out 0; have hfz16_1 := blk_frozen BK717.out 1; have hfz16_2 := blk_frozen BK717.out 2; have hfz16_3 := blk_frozen BK717.out 3; have hfz16_4 := blk_frozen BK717.out 4) | ((with_reducible refine gate_callee (f := 54) rfl ?_); refine goesL_ (some 16) rfl rfl Try.func54 (by kernel_rfl) rfl #[.agg #[.string a0_0, .int .i64 a0_1, .int .i64 a0_2, .int .i64 a0_3, .int .i64 a0_4], .agg #[.string a1_0, .int .i64 a1_1, .int .i64 a1_2, .int .i64 a1_3, .int .i64 a1_4]] rfl (by (try simp only [List.map_toArray, List.map_cons, List.map_nil]); first | done | rfl | (simp only [List.length_drop, List.length_take]; rfl)) ?_; (with_reducible refine (impl_independent.calls k a0_0 a0_1 a0_2 a0_3 a0_4 a1_0 a1_1 a1_2 a1_3 a1_4 t720 _ A7.out).mono ?_); rintro e w17 ⟨rfl, hb⟩; refine ⟨_, rfl, ?_⟩; have n0_ := Aside0.mk (blk_below (g := gb716) (o := .cells #[.string a0_0, .int .i64 a0_1, .int .i64 a0_2, .int .i64 a0_3, .int .i64 a0_4] 37 (0, 0)) (by (with_reducible repeat (first | refine blk_drewN ?_ _ | refine blk_drew ?_ | refine blk_alloc ?_ _)); exact BK716.out) hb); have n1_ := Aside0.mk (blk_below (g := gb717) (o := .cells #[.string a1_0, .int .i64 a1_1, .int .i64 a1_2, .int .i64 a1_3, .int .i64 a1_4] 37 (0, 0)) (by (with_reducible repeat (first | refine blk_drewN ?_ _ | refine blk_drew ?_ | refine blk_alloc ?_ _)); exact BK717.out) hb); have n2_ := Aside0.mk (below_step (by repeat (first | (with_reducible first | exact HB.out | apply below_alloc | apply pw_below_drewN | apply below_drew1 | refine below_set ?_ GE716.out | refine below_set ?_ GE717.out) | exact HB.out)) hb); clear BK716; clear BK717; clear HB; have BK716 := n0_; have BK717 := n1_; have HB := n2_; clear n0_ n1_ n2_; (try clear hb); (try clear hb2); (try clear hk); (try clear hi)))
      go_ret2
      exact ⟨by first | rfl | (simp [errW_none, errW_some] <;> rfl) | (simp [*, errW_none, errW_some] <;> rfl), by repeat (first | (with_reducible first | exact HB.out | apply below_alloc | apply pw_below_drewN | apply below_drew1 | refine below_set ?_ GE716.out | refine below_set ?_ GE717.out) | exact HB.out)⟩
    · replace c6 := Bool.eq_false_iff.mpr c6
      subst c6
      have H1 : (some (false, false)) = some (r1, r2) := by rw [if_neg (show ¬ (false = true) by decide)] at H; exact H
      clear H
      have H := H1
      clear H1
      simp only [Option.some.injEq, Prod.mk.injEq] at H
      obtain ⟨rfl, rfl⟩ := H
      go_enter Try.func24, Try.ntmps24
      go_wp2_with (first | ((with_reducible refine gate_dst (N := 2) rfl ?_); refine box_event ?hg (N := 2) ?hd (cs := #[.string a0_0, .int .i64 a0_1, .int .i64 a0_2, .int .i64 a0_3, .int .i64 a0_4]) (t := 37) ?hr ?_; (case hd => rfl); (case hg => rfl); (case hr => first | (go_simp; done) | (go_simp; rfl)); intro gb716 hg w18 hbox hb; have n0_ := Aside0.mk (below_step (by repeat (first | (with_reducible first | exact HB.out | apply below_alloc | apply pw_below_drewN | apply below_drew1) | exact HB.out)) hb); have n1_ := Aside0.mk (hbox); have n2_ := Aside0.mk ((by rw [hg]; exact (below_size (by repeat (first | (with_reducible first | exact HB.out | apply below_alloc | apply pw_below_drewN | apply below_drew1) | exact HB.out))) : w.heap.size ≤ gb716)); have n3_ := Aside0.mk ((by rw [hg]; exact (below_size (by repeat (first | (with_reducible first | exact HB.out | apply below_alloc | apply pw_below_drewN | apply below_drew1) | exact HB.out))) : w.heap.size ≤ gb716)); clear HB; have HB := n0_; have BK716 := n1_; have GW716 := n2_; have GE716 := n3_; clear n0_ n1_ n2_ n3_; clear hb hbox hg) | ((with_reducible refine gate_dst (N := 3) rfl ?_); refine box_event ?hg (N := 3) ?hd (cs := #[.string a1_0, .int .i64 a1_1, .int .i64 a1_2, .int .i64 a1_3, .int .i64 a1_4]) (t := 37) ?hr ?_; (case hd => rfl); (case hg => rfl); (case hr => first | (go_simp; done) | (go_simp; rfl)); intro gb717 hg w19 hbox hb; have n0_ := Aside0.mk (blk_below (g := gb716) (o := .cells #[.string a0_0, .int .i64 a0_1, .int .i64 a0_2, .int .i64 a0_3, .int .i64 a0_4] 37 (0, 0)) (by (with_reducible repeat (first | refine blk_drewN ?_ _ | refine blk_drew ?_ | refine blk_alloc ?_ _)); exact BK716.out) hb); have n1_ := Aside0.mk (below_step (by repeat (first | (with_reducible first | exact HB.out | apply below_alloc | apply pw_below_drewN | apply below_drew1 | refine below_set ?_ GE716.out) | exact HB.out)) hb); have n2_ := Aside0.mk (hbox); have n3_ := Aside0.mk ((by rw [hg]; exact (below_size (by repeat (first | (with_reducible first | exact HB.out | apply below_alloc | apply pw_below_drewN | apply below_drew1 | refine below_set ?_ GE716.out) | exact HB.out))) : w.heap.size ≤ gb717)); have n4_ := Aside0.mk ((by rw [hg]; exact (below_size (by repeat (first | (with_reducible first | exact HB.out | apply below_alloc | apply pw_below_drewN | apply below_drew1 | refine below_set ?_ GE716.out) | exact HB.out))) : w.heap.size ≤ gb717)); have n5_ := Aside0.mk ((by rw [hg]; exact Nat.ne_of_lt (blk_lt (g := gb716) (o := .cells #[.string a0_0, .int .i64 a0_1, .int .i64 a0_2, .int .i64 a0_3, .int .i64 a0_4] 37 (0, 0)) (by (with_reducible repeat (first | refine blk_drewN ?_ _ | refine blk_drew ?_ | refine blk_alloc ?_ _)); exact BK716.out)) : gb716 ≠ gb717)); have n6_ := Aside0.mk ((by rw [hg]; exact Nat.ne_of_gt (blk_lt (g := gb716) (o := .cells #[.string a0_0, .int .i64 a0_1, .int .i64 a0_2, .int .i64 a0_3, .int .i64 a0_4] 37 (0, 0)) (by (with_reducible repeat (first | refine blk_drewN ?_ _ | refine blk_drew ?_ | refine blk_alloc ?_ _)); exact BK716.out)) : gb717 ≠ gb716)); clear BK716; clear HB; have BK716 := n0_; have HB := n1_; have BK717 := n2_; have GW717 := n3_; have GE717 := n4_; have NB716_717 := n5_; have NB717_716 := n6_; clear n0_ n1_ n2_ n3_ n4_ n5_ n6_; clear hb hbox hg; have hnb20 := NB716_717.out; have hnc20 := NB717_716.out; have hcz21_0 : w19.cell? ⟨gb716, 0, none⟩ = some (.string a0_0) := (blk_cell BK716.out 0).trans rfl; have hcz21_1 : w19.cell? ⟨gb716, 1, none⟩ = some (.int .i64 a0_1) := (blk_cell BK716.out 1).trans rfl; have hcz21_2 : w19.cell? ⟨gb716, 2, none⟩ = some (.int .i64 a0_2) := (blk_cell BK716.out 2).trans rfl; have hcz21_3 : w19.cell? ⟨gb716, 3, none⟩ = some (.int .i64 a0_3) := (blk_cell BK716.out 3).trans rfl; have hcz21_4 : w19.cell? ⟨gb716, 4, none⟩ = some (.int .i64 a0_4) := (blk_cell BK716.out 4).trans rfl; have hfz21_0 := blk_frozen BK716.out 0; have hfz21_1 := blk_frozen BK716.out 1; have hfz21_2 := blk_frozen BK716.out 2; have hfz21_3 := blk_frozen BK716.out 3; have hfz21_4 := blk_frozen BK716.out 4) | ((with_reducible refine gate_callee (f := 51) rfl ?_); refine goesL_ (some 7) rfl rfl Try.func51 (by kernel_rfl) rfl #[.agg #[.string a0_0, .int .i64 a0_1, .int .i64 a0_2, .int .i64 a0_3, .int .i64 a0_4]] rfl (by (try simp only [List.map_toArray, List.map_cons, List.map_nil]); first | done | rfl | (simp only [List.length_drop, List.length_take]; rfl)) ?_; (with_reducible refine (impl_IsInstr.calls k a0_0 a0_1 a0_2 a0_3 a0_4 true _ A3.out).mono ?_); rintro e w22 ⟨rfl, hb⟩; refine ⟨_, rfl, ?_⟩; have n0_ := Aside0.mk (blk_below (g := gb716) (o := .cells #[.string a0_0, .int .i64 a0_1, .int .i64 a0_2, .int .i64 a0_3, .int .i64 a0_4] 37 (0, 0)) (by (with_reducible repeat (first | refine blk_drewN ?_ _ | refine blk_drew ?_ | refine blk_alloc ?_ _)); exact BK716.out) hb); have n1_ := Aside0.mk (blk_below (g := gb717) (o := .cells #[.string a1_0, .int .i64 a1_1, .int .i64 a1_2, .int .i64 a1_3, .int .i64 a1_4] 37 (0, 0)) (by (with_reducible repeat (first | refine blk_drewN ?_ _ | refine blk_drew ?_ | refine blk_alloc ?_ _)); exact BK717.out) hb); have n2_ := Aside0.mk (below_step (by repeat (first | (with_reducible first | exact HB.out | apply below_alloc | apply pw_below_drewN | apply below_drew1 | refine below_set ?_ GE716.out | refine below_set ?_ GE717.out) | exact HB.out)) hb); clear BK716; clear BK717; clear HB; have BK716 := n0_; have BK717 := n1_; have HB := n2_; clear n0_ n1_ n2_; (try clear hb); (try clear hb2); (try clear hk); (try clear hi); have hcz23_0 : w22.cell? ⟨gb717, 0, none⟩ = some (.string a1_0) := (blk_cell BK717.out 0).trans rfl; have hcz23_1 : w22.cell? ⟨gb717, 1, none⟩ = some (.int .i64 a1_1) := (blk_cell BK717.out 1).trans rfl; have hcz23_2 : w22.cell? ⟨gb717, 2, none⟩ = some (.int .i64 a1_2) := (blk_cell BK717.out 2).trans rfl; have hcz23_3 : w22.cell? ⟨gb717, 3, none⟩ = some (.int .i64 a1_3) := (blk_cell BK717.out 3).trans rfl; have hcz23_4 : w22.cell? ⟨gb717, 4, none⟩ = some (.int .i64 a1_4) := (blk_cell BK717.out 4).trans rfl; have hfz23_0 := blk_frozen BK717.out 0; have hfz23_1 := blk_frozen BK717.out 1; have hfz23_2 := blk_frozen BK717.out 2; have hfz23_3 := blk_frozen BK717.out 3; have hfz23_4 := blk_frozen BK717.out 4) | (go_at_call 51; (with_reducible refine (impl_IsInstr.calls k a1_0 a1_1 a1_2 a1_3 a1_4 false _ A5.out).mono ?_); rintro e w24 ⟨rfl, hb⟩; have n0_ := Aside0.mk (blk_below (g := gb716) (o := .cells #[.string a0_0, .int .i64 a0_1, .int .i64 a0_2, .int .i64 a0_3, .int .i64 a0_4] 37 (0, 0)) (by (with_reducible repeat (first | refine blk_drewN ?_ _ | refine blk_drew ?_ | refine blk_alloc ?_ _)); exact BK716.out) hb); have n1_ := Aside0.mk (blk_below (g := gb717) (o := .cells #[.string a1_0, .int .i64 a1_1, .int .i64 a1_2, .int .i64 a1_3, .int .i64 a1_4] 37 (0, 0)) (by (with_reducible repeat (first | refine blk_drewN ?_ _ | refine blk_drew ?_ | refine blk_alloc ?_ _)); exact BK717.out) hb); have n2_ := Aside0.mk (below_step (by repeat (first | (with_reducible first | exact HB.out | apply below_alloc | apply pw_below_drewN | apply below_drew1 | refine below_set ?_ GE716.out | refine below_set ?_ GE717.out) | exact HB.out)) hb); clear BK716; clear BK717; clear HB; have BK716 := n0_; have BK717 := n1_; have HB := n2_; clear n0_ n1_ n2_; (try clear hb); (try clear hb2); (try clear hk); (try clear hi)))
      go_ret2
      exact ⟨by first | rfl | (simp [errW_none, errW_some] <;> rfl) | (simp [*, errW_none, errW_some] <;> rfl), by repeat (first | (with_reducible first | exact HB.out | apply below_alloc | apply pw_below_drewN | apply below_drew1 | refine below_set ?_ GE716.out | refine below_set ?_ GE717.out) | exact HB.out)⟩
  · replace c4 := Bool.eq_false_iff.mpr c4
    subst c4
    have H1 : (some (false, false)) = some (r1, r2) := by rw [if_neg (show ¬ (false = true) by decide)] at H; exact H
    clear H
    have H := H1
    clear H1
    simp only [Option.some.injEq, Prod.mk.injEq] at H
    obtain ⟨rfl, rfl⟩ := H
    go_enter Try.func24, Try.ntmps24
    go_wp2_with (first | ((with_reducible refine gate_dst (N := 2) rfl ?_); refine box_event ?hg (N := 2) ?hd (cs := #[.string a0_0, .int .i64 a0_1, .int .i64 a0_2, .int .i64 a0_3, .int .i64 a0_4]) (t := 37) ?hr ?_; (case hd => rfl); (case hg => rfl); (case hr => first | (go_simp; done) | (go_simp; rfl)); intro gb716 hg w25 hbox hb; have n0_ := Aside0.mk (below_step (by repeat (first | (with_reducible first | exact HB.out | apply below_alloc | apply pw_below_drewN | apply below_drew1) | exact HB.out)) hb); have n1_ := Aside0.mk (hbox); have n2_ := Aside0.mk ((by rw [hg]; exact (below_size (by repeat (first | (with_reducible first | exact HB.out | apply below_alloc | apply pw_below_drewN | apply below_drew1) | exact HB.out))) : w.heap.size ≤ gb716)); have n3_ := Aside0.mk ((by rw [hg]; exact (below_size (by repeat (first | (with_reducible first | exact HB.out | apply below_alloc | apply pw_below_drewN | apply below_drew1) | exact HB.out))) : w.heap.size ≤ gb716)); clear HB; have HB := n0_; have BK716 := n1_; have GW716 := n2_; have GE716 := n3_; clear n0_ n1_ n2_ n3_; clear hb hbox hg) | ((with_reducible refine gate_dst (N := 3) rfl ?_); refine box_event ?hg (N := 3) ?hd (cs := #[.string a1_0, .int .i64 a1_1, .int .i64 a1_2, .int .i64 a1_3, .int .i64 a1_4]) (t := 37) ?hr ?_; (case hd => rfl); (case hg => rfl); (case hr => first | (go_simp; done) | (go_simp; rfl)); intro gb717 hg w26 hbox hb; have n0_ := Aside0.mk (blk_below (g := gb716) (o := .cells #[.string a0_0, .int .i64 a0_1, .int .i64 a0_2, .int .i64 a0_3, .int .i64 a0_4] 37 (0, 0)) (by (with_reducible repeat (first | refine blk_drewN ?_ _ | refine blk_drew ?_ | refine blk_alloc ?_ _)); exact BK716.out) hb); have n1_ := Aside0.mk (below_step (by repeat (first | (with_reducible first | exact HB.out | apply below_alloc | apply pw_below_drewN | apply below_drew1 | refine below_set ?_ GE716.out) | exact HB.out)) hb); have n2_ := Aside0.mk (hbox); have n3_ := Aside0.mk ((by rw [hg]; exact (below_size (by repeat (first | (with_reducible first | exact HB.out | apply below_alloc | apply pw_below_drewN | apply below_drew1 | refine below_set ?_ GE716.out) | exact HB.out))) : w.heap.size ≤ gb717)); have n4_ := Aside0.mk ((by rw [hg]; exact (below_size (by repeat (first | (with_reducible first | exact HB.out | apply below_alloc | apply pw_below_drewN | apply below_drew1 | refine below_set ?_ GE716.out) | exact HB.out))) : w.heap.size ≤ gb717)); have n5_ := Aside0.mk ((by rw [hg]; exact Nat.ne_of_lt (blk_lt (g := gb716) (o := .cells #[.string a0_0, .int .i64 a0_1, .int .i64 a0_2, .int .i64 a0_3, .int .i64 a0_4] 37 (0, 0)) (by (with_reducible repeat (first | refine blk_drewN ?_ _ | refine blk_drew ?_ | refine blk_alloc ?_ _)); exact BK716.out)) : gb716 ≠ gb717)); have n6_ := Aside0.mk ((by rw [hg]; exact Nat.ne_of_gt (blk_lt (g := gb716) (o := .cells #[.string a0_0, .int .i64 a0_1, .int .i64 a0_2, .int .i64 a0_3, .int .i64 a0_4] 37 (0, 0)) (by (with_reducible repeat (first | refine blk_drewN ?_ _ | refine blk_drew ?_ | refine blk_alloc ?_ _)); exact BK716.out)) : gb717 ≠ gb716)); clear BK716; clear HB; have BK716 := n0_; have HB := n1_; have BK717 := n2_; have GW717 := n3_; have GE717 := n4_; have NB716_717 := n5_; have NB717_716 := n6_; clear n0_ n1_ n2_ n3_ n4_ n5_ n6_; clear hb hbox hg; have hnb27 := NB716_717.out; have hnc27 := NB717_716.out; have hcz28_0 : w26.cell? ⟨gb716, 0, none⟩ = some (.string a0_0) := (blk_cell BK716.out 0).trans rfl; have hcz28_1 : w26.cell? ⟨gb716, 1, none⟩ = some (.int .i64 a0_1) := (blk_cell BK716.out 1).trans rfl; have hcz28_2 : w26.cell? ⟨gb716, 2, none⟩ = some (.int .i64 a0_2) := (blk_cell BK716.out 2).trans rfl; have hcz28_3 : w26.cell? ⟨gb716, 3, none⟩ = some (.int .i64 a0_3) := (blk_cell BK716.out 3).trans rfl; have hcz28_4 : w26.cell? ⟨gb716, 4, none⟩ = some (.int .i64 a0_4) := (blk_cell BK716.out 4).trans rfl; have hfz28_0 := blk_frozen BK716.out 0; have hfz28_1 := blk_frozen BK716.out 1; have hfz28_2 := blk_frozen BK716.out 2; have hfz28_3 := blk_frozen BK716.out 3; have hfz28_4 := blk_frozen BK716.out 4) | ((with_reducible refine gate_callee (f := 51) rfl ?_); refine goesL_ (some 7) rfl rfl Try.func51 (by kernel_rfl) rfl #[.agg #[.string a0_0, .int .i64 a0_1, .int .i64 a0_2, .int .i64 a0_3, .int .i64 a0_4]] rfl (by (try simp only [List.map_toArray, List.map_cons, List.map_nil]); first | done | rfl | (simp only [List.length_drop, List.length_take]; rfl)) ?_; (with_reducible refine (impl_IsInstr.calls k a0_0 a0_1 a0_2 a0_3 a0_4 false _ A3.out).mono ?_); rintro e w29 ⟨rfl, hb⟩; refine ⟨_, rfl, ?_⟩; have n0_ := Aside0.mk (blk_below (g := gb716) (o := .cells #[.string a0_0, .int .i64 a0_1, .int .i64 a0_2, .int .i64 a0_3, .int .i64 a0_4] 37 (0, 0)) (by (with_reducible repeat (first | refine blk_drewN ?_ _ | refine blk_drew ?_ | refine blk_alloc ?_ _)); exact BK716.out) hb); have n1_ := Aside0.mk (blk_below (g := gb717) (o := .cells #[.string a1_0, .int .i64 a1_1, .int .i64 a1_2, .int .i64 a1_3, .int .i64 a1_4] 37 (0, 0)) (by (with_reducible repeat (first | refine blk_drewN ?_ _ | refine blk_drew ?_ | refine blk_alloc ?_ _)); exact BK717.out) hb); have n2_ := Aside0.mk (below_step (by repeat (first | (with_reducible first | exact HB.out | apply below_alloc | apply pw_below_drewN | apply below_drew1 | refine below_set ?_ GE716.out | refine below_set ?_ GE717.out) | exact HB.out)) hb); clear BK716; clear BK717; clear HB; have BK716 := n0_; have BK717 := n1_; have HB := n2_; clear n0_ n1_ n2_; (try clear hb); (try clear hb2); (try clear hk); (try clear hi)))
    go_ret2
    exact ⟨by first | rfl | (simp [errW_none, errW_some] <;> rfl) | (simp [*, errW_none, errW_some] <;> rfl), by repeat (first | (with_reducible first | exact HB.out | apply below_alloc | apply pw_below_drewN | apply below_drew1 | refine below_set ?_ GE716.out | refine below_set ?_ GE717.out) | exact HB.out)⟩

/-! ### laws_FnExactAreIndependent: function 5 -/
def laws_FnExactAreIndependent.f (k : Nat) (a0_0 : ByteArray) (a0_1 : Int) (a0_2 : Int) (a0_3 : Int) (a0_4 : Int) (a1_0 : ByteArray) (a1_1 : Int) (a1_2 : Int) (a1_3 : Int) (a1_4 : Int) : Option (Bool) := (laws_szInstr.f a0_0 a0_1 a0_2 a0_3 a0_4 1048576).bind fun t723 => (if t723 < 0 then (some true) else ((laws_szInstr.f a1_0 a1_1 a1_2 a1_3 a1_4 t723).bind fun t724 => (if t724 < 0 then (some true) else ((laws_toInstr.f a0_0 a0_1 a0_2 a0_3 a0_4).bind fun bt725 => ((laws_toInstr.f a1_0 a1_1 a1_2 a1_3 a1_4).bind fun bt730 => ((spec_AreIndependent.f k bt725.1 bt725.2.1 bt725.2.2.1 bt725.2.2.2.1 bt725.2.2.2.2 bt730.1 bt730.2.1 bt730.2.2.1 bt730.2.2.2.1 bt730.2.2.2.2).bind fun bt735 => ((laws_toInstr.f a0_0 a0_1 a0_2 a0_3 a0_4).bind fun bt737 => ((laws_toInstr.f a1_0 a1_1 a1_2 a1_3 a1_4).bind fun bt742 => ((impl_AreIndependent.f k bt737.1 bt737.2.1 bt737.2.2.1 bt737.2.2.2.1 bt737.2.2.2.2 bt742.1 bt742.2.1 bt742.2.2.1 bt742.2.2.2.1 bt742.2.2.2.2).bind fun bt747 => (if (bt747.1 != bt735.1) = true then (some false) else (if (bt747.2 != bt735.2) = true then (some false) else (some true))))))))))))
theorem laws_FnExactAreIndependent.mono : ∀ a0 a1 a2 a3 a4 a5 a6 a7 a8 a9 k, LeO (laws_FnExactAreIndependent.f k a0 a1 a2 a3 a4 a5 a6 a7 a8 a9) (laws_FnExactAreIndependent.f (k + 1) a0 a1 a2 a3 a4 a5 a6 a7 a8 a9) := by
  intro a0 a1 a2 a3 a4 a5 a6 a7 a8 a9 k
  unfold laws_FnExactAreIndependent.f
  repeat' first
      | (with_reducible exact impl_AreIndependent.mono _ _ _ _ _ _ _ _ _ _ _)
      | (with_reducible exact spec_AreIndependent.mono _ _ _ _ _ _ _ _ _ _ _)
      | (with_reducible exact LeO.refl _)
      | (with_reducible exact LeO.none _)
      | (with_reducible refine LeO.ite ?_ ?_)
      | (with_reducible refine LeO.bind ?_ (fun _ => ?_))
      | exact impl_AreIndependent.mono _ _ _ _ _ _ _ _ _ _ _
      | exact spec_AreIndependent.mono _ _ _ _ _ _ _ _ _ _ _
      | exact LeO.none _
      | refine LeO.ite ?_ ?_
      | refine LeO.bind ?_ (fun _ => ?_)
def laws_FnExactAreIndependent.T8 : Bool × List (List Nat × List Nat) := (true, [([], []), ([0], [0]), ([], []), ([2, 1], [2]), ([1, 3, 3], [1, 3]), ([4], [4]), ([5], [5]), ([5], [5]), ([6, 4, 0, 1, 2, 3, 4, 5, 6], [6]), ([7, 8, 0, 1, 2, 3, 4, 5, 6, 7, 8], [7])])
def laws_FnExactAreIndependent.B8 : List Nat := [0, 1, 0, 7, 15, 31, 63, 63, 127, 511]
theorem laws_FnExactAreIndependent.tab8 : rtab .any (opsOf Try.f5 8) = laws_FnExactAreIndependent.T8 := by kernel_rfl
theorem laws_FnExactAreIndependent.bits8 : waitsOk laws_FnExactAreIndependent.T8.2 laws_FnExactAreIndependent.B8 = true := by kernel_rfl
def laws_FnExactAreIndependent.T9 : Bool × List (List Nat × List Nat) := (true, [([], []), ([0], [0]), ([], []), ([2, 1], [2]), ([1, 3, 3], [1, 3]), ([4], [4]), ([5], [5]), ([5], [5]), ([6, 4, 0, 1, 2, 3, 4, 5, 6], [6]), ([7, 8, 0, 1, 2, 3, 4, 5, 6, 7, 8], [7])])
def laws_FnExactAreIndependent.B9 : List Nat := [0, 1, 0, 7, 15, 31, 63, 63, 127, 511]
theorem laws_FnExactAreIndependent.tab9 : rtab .any (opsOf Try.f5 9) = laws_FnExactAreIndependent.T9 := by kernel_rfl
theorem laws_FnExactAreIndependent.bits9 : waitsOk laws_FnExactAreIndependent.T9.2 laws_FnExactAreIndependent.B9 = true := by kernel_rfl
set_option maxHeartbeats 8000000 in
set_option maxRecDepth 100000 in
theorem laws_FnExactAreIndependent.calls (k : Nat) (a0_0 : ByteArray) (a0_1 : Int) (a0_2 : Int) (a0_3 : Int) (a0_4 : Int) (a1_0 : ByteArray) (a1_1 : Int) (a1_2 : Int) (a1_3 : Int) (a1_4 : Int) (r : Bool) (w : World) (h : laws_FnExactAreIndependent.f k a0_0 a0_1 a0_2 a0_3 a0_4 a1_0 a1_1 a1_2 a1_3 a1_4 = some r) (hr : r = true) :
    Calls Try.prog 5 #[.agg #[.string a0_0, .int .i64 a0_1, .int .i64 a0_2, .int .i64 a0_3, .int .i64 a0_4], .agg #[.string a1_0, .int .i64 a1_1, .int .i64 a1_2, .int .i64 a1_3, .int .i64 a1_4]] w fun e w' => e = .returned (.bool r) ∧ Below w.heap.size w w' := by
  have hu32 := Try.underlying32
  have HB := Aside0.mk (Below.refl w.heap.size w)
  have H : ((laws_szInstr.f a0_0 a0_1 a0_2 a0_3 a0_4 1048576).bind fun t723 => (if t723 < 0 then (some true) else ((laws_szInstr.f a1_0 a1_1 a1_2 a1_3 a1_4 t723).bind fun t724 => (if t724 < 0 then (some true) else ((laws_toInstr.f a0_0 a0_1 a0_2 a0_3 a0_4).bind fun bt725 => ((laws_toInstr.f a1_0 a1_1 a1_2 a1_3 a1_4).bind fun bt730 => ((spec_AreIndependent.f k bt725.1 bt725.2.1 bt725.2.2.1 bt725.2.2.2.1 bt725.2.2.2.2 bt730.1 bt730.2.1 bt730.2.2.1 bt730.2.2.2.1 bt730.2.2.2.2).bind fun bt735 => ((laws_toInstr.f a0_0 a0_1 a0_2 a0_3 a0_4).bind fun bt737 => ((laws_toInstr.f a1_0 a1_1 a1_2 a1_3 a1_4).bind fun bt742 => ((impl_AreIndependent.f k bt737.1 bt737.2.1 bt737.2.2.1 bt737.2.2.2.1 bt737.2.2.2.2 bt742.1 bt742.2.1 bt742.2.2.1 bt742.2.2.2.1 bt742.2.2.2.2).bind fun bt747 => (if (bt747.1 != bt735.1) = true then (some false) else (if (bt747.2 != bt735.2) = true then (some false) else (some true))))))))))))) = some r := h
  clear h
  replace H := Option.bind_eq_some_iff.mp H
  obtain ⟨t723, A30, H⟩ := H
  replace H : (if t723 < 0 then (some true) else ((laws_szInstr.f a1_0 a1_1 a1_2 a1_3 a1_4 t723).bind fun t724 => (if t724 < 0 then (some true) else ((laws_toInstr.f a0_0 a0_1 a0_2 a0_3 a0_4).bind fun bt725 => ((laws_toInstr.f a1_0 a1_1 a1_2 a1_3 a1_4).bind fun bt730 => ((spec_AreIndependent.f k bt725.1 bt725.2.1 bt725.2.2.1 bt725.2.2.2.1 bt725.2.2.2.2 bt730.1 bt730.2.1 bt730.2.2.1 bt730.2.2.2.1 bt730.2.2.2.2).bind fun bt735 => ((laws_toInstr.f a0_0 a0_1 a0_2 a0_3 a0_4).bind fun bt737 => ((laws_toInstr.f a1_0 a1_1 a1_2 a1_3 a1_4).bind fun bt742 => ((impl_AreIndependent.f k bt737.1 bt737.2.1 bt737.2.2.1 bt737.2.2.2.1 bt737.2.2.2.2 bt742.1 bt742.2.1 bt742.2.2.1 bt742.2.2.2.1 bt742.2.2.2.2).bind fun bt747 => (if (bt747.1 != bt735.1) = true then (some false) else (if (bt747.2 != bt735.2) = true then (some false) else (some true)))))))))))) = some r := H
  have A3 := Aside0.mk A30
  clear A30
  by_cases c4 : t723 < 0
  · rw [if_pos c4] at H
    have c4b0 : decide (t723 < 0) = true := decide_eq_true c4
    clear c4
    obtain rfl := Option.some.inj H
    go_enter Try.func5, Try.ntmps5
    go_wp2_with (first | ((with_reducible refine gate_dst (N := 2) rfl ?_); refine box_event ?hg (N := 2) ?hd (cs := #[.string a0_0, .int .i64 a0_1, .int .i64 a0_2, .int .i64 a0_3, .int .i64 a0_4]) (t := 32) ?hr ?_; (case hd => rfl); (case hg => rfl); (case hr => first | (go_simp; done) | (go_simp; rfl)); intro gb721 hg w5 hbox hb; have n0_ := Aside0.mk (below_step (by repeat (first | (with_reducible first | exact HB.out | apply below_alloc | apply pw_below_drewN | apply below_drew1) | exact HB.out)) hb); have n1_ := Aside0.mk (hbox); have n2_ := Aside0.mk ((by rw [hg]; exact (below_size (by repeat (first | (with_reducible first | exact HB.out | apply below_alloc | apply pw_below_drewN | apply below_drew1) | exact HB.out))) : w.heap.size ≤ gb721)); have n3_ := Aside0.mk ((by rw [hg]; exact (below_size (by repeat (first | (with_reducible first | exact HB.out | apply below_alloc | apply pw_below_drewN | apply below_drew1) | exact HB.out))) : w.heap.size ≤ gb721)); clear HB; have HB := n0_; have BK721 := n1_; have GW721 := n2_; have GE721 := n3_; clear n0_ n1_ n2_ n3_; clear hb hbox hg) | ((with_reducible refine gate_dst (N := 3) rfl ?_); refine box_event ?hg (N := 3) ?hd (cs := #[.string a1_0, .int .i64 a1_1, .int .i64 a1_2, .int .i64 a1_3, .int .i64 a1_4]) (t := 32) ?hr ?_; (case hd => rfl); (case hg => rfl); (case hr => first | (go_simp; done) | (go_simp; rfl)); intro gb722 hg w6 hbox hb; have n0_ := Aside0.mk (blk_below (g := gb721) (o := .cells #[.string a0_0, .int .i64 a0_1, .int .i64 a0_2, .int .i64 a0_3, .int .i64 a0_4] 32 (0, 0)) (by (with_reducible repeat (first | refine blk_drewN ?_ _ | refine blk_drew ?_ | refine blk_alloc ?_ _)); exact BK721.out) hb); have n1_ := Aside0.mk (below_step (by repeat (first | (with_reducible first | exact HB.out | apply below_alloc | apply pw_below_drewN | apply below_drew1 | refine below_set ?_ GE721.out) | exact HB.out)) hb); have n2_ := Aside0.mk (hbox); have n3_ := Aside0.mk ((by rw [hg]; exact (below_size (by repeat (first | (with_reducible first | exact HB.out | apply below_alloc | apply pw_below_drewN | apply below_drew1 | refine below_set ?_ GE721.out) | exact HB.out))) : w.heap.size ≤ gb722)); have n4_ := Aside0.mk ((by rw [hg]; exact (below_size (by repeat (first | (with_reducible first | exact HB.out | apply below_alloc | apply pw_below_drewN | apply below_drew1 | refine below_set ?_ GE721.out) | exact HB.out))) : w.heap.size ≤ gb722)); have n5_ := Aside0.mk ((by rw [hg]; exact Nat.ne_of_lt (blk_lt (g := gb721) (o := .cells #[.string a0_0, .int .i64 a0_1, .int .i64 a0_2, .int .i64 a0_3, .int .i64 a0_4] 32 (0, 0)) (by (with_reducible repeat (first | refine blk_drewN ?_ _ | refine blk_drew ?_ | refine blk_alloc ?_ _)); exact BK721.out)) : gb721 ≠ gb722)); have n6_ := Aside0.mk ((by rw [hg]; exact Nat.ne_of_gt (blk_lt (g := gb721) (o := .cells #[.string a0_0, .int .i64 a0_1, .int .i64 a0_2, .int .i64 a0_3, .int .i64 a0_4] 32 (0, 0)) (by (with_reducible repeat (first | refine blk_drewN ?_ _ | refine blk_drew ?_ | refine blk_alloc ?_ _)); exact BK721.out)) : gb722 ≠ gb721)); clear BK721; clear HB; have BK721 := n0_; have HB := n1_; have BK722 := n2_; have GW722 := n3_; have GE722 := n4_; have NB721_722 := n5_; have NB722_721 := n6_; clear n0_ n1_ n2_ n3_ n4_ n5_ n6_; clear hb hbox hg; have hnb7 := NB721_722.out; have hnc7 := NB722_721.out; have hcz8_0 : w6.cell? ⟨gb721, 0, none⟩ = some (.string a0_0) := (blk_cell BK721.out 0).trans rfl; have hcz8_1 : w6.cell? ⟨gb721, 1, none⟩ = some (.int .i64 a0_1) := (blk_cell BK721.out 1).trans rfl; have hcz8_2 : w6.cell? ⟨gb721, 2, none⟩ = some (.int .i64 a0_2) := (blk_cell BK721.out 2).trans rfl; have hcz8_3 : w6.cell? ⟨gb721, 3, none⟩ = some (.int .i64 a0_3) := (blk_cell BK721.out 3).trans rfl; have hcz8_4 : w6.cell? ⟨gb721, 4, none⟩ = some (.int .i64 a0_4) := (blk_cell BK721.out 4).trans rfl; have hfz8_0 := blk_frozen BK721.out 0; have hfz8_1 := blk_frozen BK721.out 1; have hfz8_2 := blk_frozen BK721.out 2; have hfz8_3 := blk_frozen BK721.out 3; have hfz8_4 := blk_frozen BK721.out 4) | ((with_reducible refine gate_callee (f := 16) rfl ?_); refine goesL_ (some 12) rfl rfl Try.func16 (by kernel_rfl) rfl #[.agg #[.string a0_0, .int .i64 a0_1, .int .i64 a0_2, .int .i64 a0_3, .int .i64 a0_4], .int .i64 1048576] rfl (by (try simp only [List.map_toArray, List.map_cons, List.map_nil]); first | done | rfl | (simp only [List.length_drop, List.length_take]; rfl)) ?_; (with_reducible refine (laws_szInstr.calls a0_0 a0_1 a0_2 a0_3 a0_4 1048576 t723 _ A3.out).mono ?_); rintro e w9 ⟨rfl, hb⟩; refine ⟨_, rfl, ?_⟩; have n0_ := Aside0.mk (blk_below (g := gb721) (o := .cells #[.string a0_0, .int .i64 a0_1, .int .i64 a0_2, .int .i64 a0_3, .int .i64 a0_4] 32 (0, 0)) (by (with_reducible repeat (first | refine blk_drewN ?_ _ | refine blk_drew ?_ | refine blk_alloc ?_ _)); exact BK721.out) hb); have n1_ := Aside0.mk (blk_below (g := gb722) (o := .cells #[.string a1_0, .int .i64 a1_1, .int .i64 a1_2, .int .i64 a1_3, .int .i64 a1_4] 32 (0, 0)) (by (with_reducible repeat (first | refine blk_drewN ?_ _ | refine blk_drew ?_ | refine blk_alloc ?_ _)); exact BK722.out) hb); have n2_ := Aside0.mk (below_step (by repeat (first | (with_reducible first | exact HB.out | apply below_alloc | apply pw_below_drewN | apply below_drew1 | refine below_set ?_ GE721.out | refine below_set ?_ GE722.out) | exact HB.out)) hb); clear BK721; clear BK722; clear HB; have BK721 := n0_; have BK722 := n1_; have HB := n2_; clear n0_ n1_ n2_; (try clear hb); (try clear hb2); (try clear hk); (try clear hi)))
    go_ret
    exact ⟨by first | rfl | (simp [errW_none, errW_some] <;> rfl) | (simp [*, errW_none, errW_some] <;> rfl), by repeat (first | (with_reducible first | exact HB.out | apply below_alloc | apply pw_below_drewN | apply below_drew1 | refine below_set ?_ GE721.out | refine below_set ?_ GE722.out) | exact HB.out)⟩
  · rw [if_neg c4] at H
    have c4b0 : decide (t723 < 0) = false := decide_eq_false c4
    clear c4
    replace H := Option.bind_eq_some_iff.mp H
    obtain ⟨t724, A100, H⟩ := H
    replace H : (if t724 < 0 then (some true) else ((laws_toInstr.f a0_0 a0_1 a0_2 a0_3 a0_4).bind fun bt725 => ((laws_toInstr.f a1_0 a1_1 a1_2 a1_3 a1_4).bind fun bt730 => ((spec_AreIndependent.f k bt725.1 bt725.2.1 bt725.2.2.1 bt725.2.2.2.1 bt725.2.2.2.2 bt730.1 bt730.2.1 bt730.2.2.1 bt730.2.2.2.1 bt730.2.2.2.2).bind fun bt735 => ((laws_toInstr.f a0_0 a0_1 a0_2 a0_3 a0_4).bind fun bt737 => ((laws_toInstr.f a1_0 a1_1 a1_2 a1_3 a1_4).bind fun bt742 => ((impl_AreIndependent.f k bt737.1 bt737.2.1 bt737.2.2.1 bt737.2.2.2.1 bt737.2.2.2.2 bt742.1 bt742.2.1 bt742.2.2.1 bt742.2.2.2.1 bt742.2.2.2.2).bind fun bt747 => (if (bt747.1 != bt735.1) = true then (some false) else (if (bt747.2 != bt735.2) = true then (some false) else (some true)))))))))) = some r := H
    have A10 := Aside0.mk A100
    clear A100
    by_cases c11 : t724 < 0
    · rw [if_pos c11] at H
      have c11b0 : decide (t724 < 0) = true := decide_eq_true c11
      clear c11
      obtain rfl := Option.some.inj H
      go_enter Try.func5, Try.ntmps5
      go_wp2_with (first | ((with_reducible refine gate_dst (N := 2) rfl ?_); refine box_event ?hg (N := 2) ?hd (cs := #[.string a0_0, .int .i64 a0_1, .int .i64 a0_2, .int .i64 a0_3, .int .i64 a0_4]) (t := 32) ?hr ?_; (case hd => rfl); (case hg => rfl); (case hr => first | (go_simp; done) | (go_simp; rfl)); intro gb721 hg w12 hbox hb; have n0_ := Aside0.mk (below_step (by repeat (first | (with_reducible first | exact HB.out | apply below_alloc | apply pw_below_drewN | apply below_drew1) | exact HB.out)) hb); have n1_ := Aside0.mk (hbox); have n2_ := Aside0.mk ((by rw [hg]; exact (below_size (by repeat (first | (with_reducible first | exact HB.out | apply below_alloc | apply pw_below_drewN | apply below_drew1) | exact HB.out))) : w.heap.size ≤ gb721)); have n3_ := Aside0.mk ((by rw [hg]; exact (below_size (by repeat (first | (with_reducible first | exact HB.out | apply below_alloc | apply pw_below_drewN | apply below_drew1) | exact HB.out))) : w.heap.size ≤ gb721)); clear HB; have HB := n0_; have BK721 := n1_; have GW721 := n2_; have GE721 := n3_; clear n0_ n1_ n2_ n3_; clear hb hbox hg) | ((with_reducible refine gate_dst (N := 3) rfl ?_); refine box_event ?hg (N := 3) ?hd (cs := #[.string a1_0, .int .i64 a1_1, .int .i64 a1_2, .int .i64 a1_3, .int .i64 a1_4]) (t := 32) ?hr ?_; (case hd => rfl); (case hg => rfl); (case hr => first | (go_simp; done) | (go_simp; rfl)); intro gb722 hg w13 hbox hb; have n0_ := Aside0.mk (blk_below (g := gb721) (o := .cells #[.string a0_0, .int .i64 a0_1, .int .i64 a0_2, .int .i64 a0_3, .int .i64 a0_4] 32 (0, 0)) (by (with_reducible repeat (first | refine blk_drewN ?_ _ | refine blk_drew ?_ | refine blk_alloc ?_ _)); exact BK721.out) hb); have n1_ := Aside0.mk (below_step (by repeat (first | (with_reducible first | exact HB.out | apply below_alloc | apply pw_below_drewN | apply below_drew1 | refine below_set ?_ GE721.out) | exact HB.out)) hb); have n2_ := Aside0.mk (hbox); have n3_ := Aside0.mk ((by rw [hg]; exact (below_size (by repeat (first | (with_reducible first | exact HB.out | apply below_alloc | apply pw_below_drewN | apply below_drew1 | refine below_set ?_ GE721.out) | exact HB.out))) : w.heap.size ≤ gb722)); have n4_ := Aside0.mk ((by rw [hg]; exact (below_size (by repeat (first | (with_reducible first | exact HB.out | apply below_alloc | apply pw_below_drewN | apply below_drew1 | refine below_set ?_ GE721.out) | exact HB.out))) : w.heap.size ≤ gb722)); have n5_ := Aside0.mk ((by rw [hg]; exact Nat.ne_of_lt (blk_lt (g := gb721) (o := .cells #[.string a0_0, .int .i64 a0_1, .int .i64 a0_2, .int .i64 a0_3, .int .i64 a0_4] 32 (0, 0)) (by (with_reducible repeat (first | refine blk_drewN ?_ _ | refine blk_drew ?_ | refine blk_alloc ?_ _)); exact BK721.out)) : gb721 ≠ gb722)); have n6_ := Aside0.mk ((by rw [hg]; exact Nat.ne_of_gt (blk_lt (g := gb721) (o := .cells #[.string a0_0, .int .i64 a0_1, .int .i64 a0_2, .int .i64 a0_3, .int .i64 a0_4] 32 (0, 0)) (by (with_reducible repeat (first | refine blk_drewN ?_ _ | refine blk_drew ?_ | refine blk_alloc ?_ _)); exact BK721.out)) : gb722 ≠ gb721)); clear BK721; clear HB; have BK721 := n0_; have HB := n1_; have BK722 := n2_; have GW722 := n3_; have GE722 := n4_; have NB721_722 := n5_; have NB722_721 := n6_; clear n0_ n1_ n2_ n3_ n4_ n5_ n6_; clear hb hbox hg; have hnb14 := NB721_722.out; have hnc14 := NB722_721.out; have hcz15_0 : w13.cell? ⟨gb721, 0, none⟩ = some (.string a0_0) := (blk_cell BK721.out 0).trans rfl; have hcz15_1 : w13.cell? ⟨gb721, 1, none⟩ = some (.int .i64 a0_1) := (blk_cell BK721.out 1).trans rfl; have hcz15_2 : w13.cell? ⟨gb721, 2, none⟩ = some (.int .i64 a0_2) := (blk_cell BK721.out 2).trans rfl; have hcz15_3 : w13.cell? ⟨gb721, 3, none⟩ = some (.int .i64 a0_3) := (blk_cell BK721.out 3).trans rfl; have hcz15_4 : w13.cell? ⟨gb721, 4, none⟩ = some (.int .i64 a0_4) := (blk_cell BK721.out 4).trans rfl; have hfz15_0 := blk_frozen BK721.out 0; have hfz15_1 := blk_frozen BK721.out 1; have hfz15_2 := blk_frozen BK721.out 2; have hfz15_3 := blk_frozen BK721.out 3; have hfz15_4 := blk_frozen BK721.out 4) | ((with_reducible refine gate_callee (f := 16) rfl ?_); refine goesL_ (some 12) rfl rfl Try.func16 (by kernel_rfl) rfl #[.agg #[.string a0_0, .int .i64 a0_1, .int .i64 a0_2, .int .i64 a0_3, .int .i64 a0_4], .int .i64 1048576] rfl (by (try simp only [List.map_toArray, List.map_cons, List.map_nil]); first | done | rfl | (simp only [List.length_drop, List.length_take]; rfl)) ?_; (with_reducible refine (laws_szInstr.calls a0_0 a0_1 a0_2 a0_3 a0_4 1048576 t723 _ A3.out).mono ?_); rintro e w16 ⟨rfl, hb⟩; refine ⟨_, rfl, ?_⟩; have n0_ := Aside0.mk (blk_below (g := gb721) (o := .cells #[.string a0_0, .int .i64 a0_1, .int .i64 a0_2, .int .i64 a0_3, .int .i64 a0_4] 32 (0, 0)) (by (with_reducible repeat (first | refine blk_drewN ?_ _ | refine blk_drew ?_ | refine blk_alloc ?_ _)); exact BK721.out) hb); have n1_ := Aside0.mk (blk_below (g := gb722) (o := .cells #[.string a1_0, .int .i64 a1_1, .int .i64 a1_2, .int .i64 a1_3, .int .i64 a1_4] 32 (0, 0)) (by (with_reducible repeat (first | refine blk_drewN ?_ _ | refine blk_drew ?_ | refine blk_alloc ?_ _)); exact BK722.out) hb); have n2_ := Aside0.mk (below_step (by repeat (first | (with_reducible first | exact HB.out | apply below_alloc | apply pw_below_drewN | apply below_drew1 | refine below_set ?_ GE721.out | refine below_set ?_ GE722.out) | exact HB.out)) hb); clear BK721; clear BK722; clear HB; have BK721 := n0_; have BK722 := n1_; have HB := n2_; clear n0_ n1_ n2_; (try clear hb); (try clear hb2); (try clear hk); (try clear hi); have hcz17_0 : w16.cell? ⟨gb722, 0, none⟩ = some (.string a1_0) := (blk_cell BK722.out 0).trans rfl; have hcz17_1 : w16.cell? ⟨gb722, 1, none⟩ = some (.int .i64 a1_1) := (blk_cell BK722.out 1).trans rfl; have hcz17_2 : w16.cell? ⟨gb722, 2, none⟩ = some (.int .i64 a1_2) := (blk_cell BK722.out 2).trans rfl; have hcz17_3 : w16.cell? ⟨gb722, 3, none⟩ = some (.int .i64 a1_3) := (blk_cell BK722.out 3).trans rfl; have hcz17_4 : w16.cell? ⟨gb722, 4, none⟩ = some (.int .i64 a1_4) := (blk_cell BK722.out 4).trans rfl; have hfz17_0 := blk_frozen BK722.out 0; have hfz17_1 := blk_frozen BK722.out 1; have hfz17_2 := blk_frozen BK722.out 2; have hfz17_3 := blk_frozen BK722.out 3; have hfz17_4 := blk_frozen BK722.out 4) | ((with_reducible refine gate_callee (f := 16) rfl ?_); refine goesL_ (some 17) rfl rfl Try.func16 (by kernel_rfl) rfl #[.agg #[.string a1_0, .int .i64 a1_1, .int .i64 a1_2, .int .i64 a1_3, .int .i64 a1_4], .int .i64 t723] rfl (by (try simp only [List.map_toArray, List.map_cons, List.map_nil]); first | done | rfl | (simp only [List.length_drop, List.length_take]; rfl)) ?_; (with_reducible refine (laws_szInstr.calls a1_0 a1_1 a1_2 a1_3 a1_4 t723 t724 _ A10.out).mono ?_); rintro e w18 ⟨rfl, hb⟩; refine ⟨_, rfl, ?_⟩; have n0_ := Aside0.mk (blk_below (g := gb721) (o := .cells #[.string a0_0, .int .i64 a0_1, .int .i64 a0_2, .int .i64 a0_3, .int .i64 a0_4] 32 (0, 0)) (by (with_reducible repeat (first | refine blk_drewN ?_ _ | refine blk_drew ?_ | refine blk_alloc ?_ _)); exact BK721.out) hb); have n1_ := Aside0.mk (blk_below (g := gb722) (o := .cells #[.string a1_0, .int .i64 a1_1, .int .i64 a1_2, .int .i64 a1_3, .int .i64 a1_4] 32 (0, 0)) (by (with_reducible repeat (first | refine blk_drewN ?_ _ | refine blk_drew ?_ | refine blk_alloc ?_ _)); exact BK722.out) hb); have n2_ := Aside0.mk (below_step (by repeat (first | (with_reducible first | exact HB.out | apply below_alloc | apply pw_below_drewN | apply below_drew1 | refine below_set ?_ GE721.out | refine below_set ?_ GE722.out) | exact HB.out)) hb); clear BK721; clear BK722; clear HB; have BK721 := n0_; have BK722 := n1_; have HB := n2_; clear n0_ n1_ n2_; (try clear hb); (try clear hb2); (try clear hk); (try clear hi)))
      go_ret
      exact ⟨by first | rfl | (simp [errW_none, errW_some] <;> rfl) | (simp [*, errW_none, errW_some] <;> rfl), by repeat (first | (with_reducible first | exact HB.out | apply below_alloc | apply pw_below_drewN | apply below_drew1 | refine below_set ?_ GE721.out | refine below_set ?_ GE722.out) | exact HB.out)⟩
    · rw [if_neg c11] at H
      have c11b0 : decide (t724 < 0) = false := decide_eq_false c11
      clear c11
      replace H := Option.bind_eq_some_iff.mp H
      obtain ⟨⟨t725, t726, t727, t728, t729⟩, A190, H⟩ := H
      replace H : ((laws_toInstr.f a1_0 a1_1 a1_2 a1_3 a1_4).bind fun bt730 => ((spec_AreIndependent.f k t725 t726 t727 t728 t729 bt730.1 bt730.2.1 bt730.2.2.1 bt730.2.2.2.1 bt730.2.2.2.2).bind fun bt735 => ((laws_toInstr.f a0_0 a0_1 a0_2 a0_3 a0_4).bind fun bt737 => ((laws_toInstr.f a1_0 a1_1 a1_2 a1_3 a1_4).bind fun bt742 => ((impl_AreIndependent.f k bt737.1 bt737.2.1 bt737.2.2.1 bt737.2.2.2.1 bt737.2.2.2.2 bt742.1 bt742.2.1 bt742.2.2.1 bt742.2.2.2.1 bt742.2.2.2.2).bind fun bt747 => (if (bt747.1 != bt735.1) = true then (some false) else (if (bt747.2 != bt735.2) = true then (some false) else (some true)))))))) = some r := H
      have A19 := Aside0.mk A190
      clear A190
      replace H := Option.bind_eq_some_iff.mp H
      obtain ⟨⟨t730, t731, t732, t733, t734⟩, A200, H⟩ := H
      replace H : ((spec_AreIndependent.f k t725 t726 t727 t728 t729 t730 t731 t732 t733 t734).bind fun bt735 => ((laws_toInstr.f a0_0 a0_1 a0_2 a0_3 a0_4).bind fun bt737 => ((laws_toInstr.f a1_0 a1_1 a1_2 a1_3 a1_4).bind fun bt742 => ((impl_AreIndependent.f k bt737.1 bt737.2.1 bt737.2.2.1 bt737.2.2.2.1 bt737.2.2.2.2 bt742.1 bt742.2.1 bt742.2.2.1 bt742.2.2.2.1 bt742.2.2.2.2).bind fun bt747 => (if (bt747.1 != bt735.1) = true then (some false) else (if (bt747.2 != bt735.2) = true then (some false) else (some true))))))) = some r := H
      have A20 := Aside0.mk A200
      clear A200
      replace H := Option.bind_eq_some_iff.mp H
      obtain ⟨⟨t735, t736⟩, A210, H⟩ := H
      replace H : ((laws_toInstr.f a0_0 a0_1 a0_2 a0_3 a0_4).bind fun bt737 => ((laws_toInstr.f a1_0 a1_1 a1_2 a1_3 a1_4).bind fun bt742 => ((impl_AreIndependent.f k bt737.1 bt737.2.1 bt737.2.2.1 bt737.2.2.2.1 bt737.2.2.2.2 bt742.1 bt742.2.1 bt742.2.2.1 bt742.2.2.2.1 bt742.2.2.2.2).bind fun bt747 => (if (bt747.1 != t735) = true then (some false) else (if (bt747.2 != t736) = true then (some false) else (some true)))))) = some r := H
      have A21 := Aside0.mk A210
      clear A210
      replace H := Option.bind_eq_some_iff.mp H
      obtain ⟨⟨t737, t738, t739, t740, t741⟩, A220, H⟩ := H
      replace H : ((laws_toInstr.f a1_0 a1_1 a1_2 a1_3 a1_4).bind fun bt742 => ((impl_AreIndependent.f k t737 t738 t739 t740 t741 bt742.1 bt742.2.1 bt742.2.2.1 bt742.2.2.2.1 bt742.2.2.2.2).bind fun bt747 => (if (bt747.1 != t735) = true then (some false) else (if (bt747.2 != t736) = true then (some false) else (some true))))) = some r := H
      have A22 := Aside0.mk A220
      clear A220
      replace H := Option.bind_eq_some_iff.mp H
      obtain ⟨⟨t742, t743, t744, t745, t746⟩, A230, H⟩ := H
      replace H : ((impl_AreIndependent.f k t737 t738 t739 t740 t741 t742 t743 t744 t745 t746).bind fun bt747 => (if (bt747.1 != t735) = true then (some false) else (if (bt747.2 != t736) = true then (some false) else (some true)))) = some r := H
      have A23 := Aside0.mk A230
      clear A230
      replace H := Option.bind_eq_some_iff.mp H
      obtain ⟨⟨t747, t748⟩, A240, H⟩ := H
      replace H : (if (t747 != t735) = true then (some false) else (if (t748 != t736) = true then (some false) else (some true))) = some r := H
      have A24 := Aside0.mk A240
      clear A240
      by_cases c25 : (t747 != t735) = true
      · rw [if_pos c25] at H
        have c25b0 : (t747 != t735) = true := c25
        (try (have c25b1 : decide (t747 = t735) = false := by simpa using c25))
        (try (have c25b2 : (t747 == t735) = false := by simpa using c25))
        (try (have c25b3 : ¬ (t747 = t735) := by simpa using c25))
        clear c25
        exact absurd ((Option.some.inj H).trans hr) (by decide)
      · rw [if_neg c25] at H
        have c25b0 : (t747 != t735) = false := by simpa using c25
        (try (have c25b1 : decide (t747 = t735) = true := by simpa using c25))
        (try (have c25b2 : (t747 == t735) = true := by simpa using c25))
        clear c25
        by_cases c41 : (t748 != t736) = true
        · rw [if_pos c41] at H
          have c41b0 : (t748 != t736) = true := c41
          (try (have c41b1 : decide (t748 = t736) = false := by simpa using c41))
          (try (have c41b2 : (t748 == t736) = false := by simpa using c41))
          (try (have c41b3 : ¬ (t748 = t736) := by simpa using c41))
          clear c41
          exact absurd ((Option.some.inj H).trans hr) (by decide)
        · rw [if_neg c41] at H
          have c41b0 : (t748 != t736) = false := by simpa using c41
          (try (have c41b1 : decide (t748 = t736) = true := by simpa using c41))
          (try (have c41b2 : (t748 == t736) = true := by simpa using c41))
          clear c41
          obtain rfl := Option.some.inj H
          go_enter Try.func5, Try.ntmps5
          try go_wp2_with (first | ((with_reducible refine gate_dst (N := 2) rfl ?_); refine box_event ?hg (N := 2) ?hd (cs := #[.string a0_0, .int .i64 a0_1, .int .i64 a0_2, .int .i64 a0_3, .int .i64 a0_4]) (t := 32) ?hr ?_; (case hd => rfl); (case hg => rfl); (case hr => first | (go_simp; done) | (go_simp; rfl)); intro gb721 hg w57 hbox hb; have n0_ := Aside0.mk (below_step (by repeat (first | (with_reducible first | exact HB.out | apply below_alloc | apply pw_below_drewN | apply below_drew1) | exact HB.out)) hb); have n1_ := Aside0.mk (hbox); have n2_ := Aside0.mk ((by rw [hg]; exact (below_size (by repeat (first | (with_reducible first | exact HB.out | apply below_alloc | apply pw_below_drewN | apply below_drew1) | exact HB.out))) : w.heap.size ≤ gb721)); have n3_ := Aside0.mk ((by rw [hg]; exact (below_size (by repeat (first | (with_reducible first | exact HB.out | apply below_alloc | apply pw_below_drewN | apply below_drew1) | exact HB.out))) : w.heap.size ≤ gb721)); clear HB; have HB := n0_; have BK721 := n1_; have GW721 := n2_; have GE721 := n3_; clear n0_ n1_ n2_ n3_; clear hb hbox hg) | ((with_reducible refine gate_dst (N := 3) rfl ?_); refine box_event ?hg (N := 3) ?hd (cs := #[.string a1_0, .int .i64 a1_1, .int .i64 a1_2, .int .i64 a1_3, .int .i64 a1_4]) (t := 32) ?hr ?_; (case hd => rfl); (case hg => rfl); (case hr => first | (go_simp; done) | (go_simp; rfl)); intro gb722 hg w58 hbox hb; have n0_ := Aside0.mk (blk_below (g := gb721) (o := .cells #[.string a0_0, .int .i64 a0_1, .int .i64 a0_2, .int .i64 a0_3, .int .i64 a0_4] 32 (0, 0)) (by (with_reducible repeat (first | refine blk_drewN ?_ _ | refine blk_drew ?_ | refine blk_alloc ?_ _)); exact BK721.out) hb); have n1_ := Aside0.mk (below_step (by repeat (first | (with_reducible first | exact HB.out | apply below_alloc | apply pw_below_drewN | apply below_drew1 | refine below_set ?_ GE721.out) | exact HB.out)) hb); have n2_ := Aside0.mk (hbox); have n3_ := Aside0.mk ((by rw [hg]; exact (below_size (by repeat (first | (with_reducible first | exact HB.out | apply below_alloc | apply pw_below_drewN | apply below_drew1 | refine below_set ?_ GE721.out) | exact HB.out))) : w.heap.size ≤ gb722)); have n4_ := Aside0.mk ((by rw [hg]; exact (below_size (by repeat (first | (with_reducible first | exact HB.out | apply below_alloc | apply pw_below_drewN | apply below_drew1 | refine below_set ?_ GE721.out) | exact HB.out))) : w.heap.size ≤ gb722)); have n5_ := Aside0.mk ((by rw [hg]; exact Nat.ne_of_lt (blk_lt (g := gb721) (o := .cells #[.string a0_0, .int .i64 a0_1, .int .i64 a0_2, .int .i64 a0_3, .int .i64 a0_4] 32 (0, 0)) (by (with_reducible repeat (first | refine blk_drewN ?_ _ | refine blk_drew ?_ | refine blk_alloc ?_ _)); exact BK721.out)) : gb721 ≠ gb722)); have n6_ := Aside0.mk ((by rw [hg]; exact Nat.ne_of_gt (blk_lt (g := gb721) (o := .cells #[.string a0_0, .int .i64 a0_1, .int .i64 a0_2, .int .i64 a0_3, .int .i64 a0_4] 32 (0, 0)) (by (with_reducible repeat (first | refine blk_drewN ?_ _ | refine blk_drew ?_ | refine blk_alloc ?_ _)); exact BK721.out)) : gb722 ≠ gb721)); clear BK721; clear HB; have BK721 := n0_; have HB := n1_; have BK722 := n2_; have GW722 := n3_; have GE722 := n4_; have NB721_722 := n5_; have NB722_721 := n6_; clear n0_ n1_ n2_ n3_ n4_ n5_ n6_; clear hb hbox hg; have hnb59 := NB721_722.out; have hnc59 := NB722_721.out; have hcz60_0 : w58.cell? ⟨gb721, 0, none⟩ = some (.string a0_0) := (blk_cell BK721.out 0).trans rfl; have hcz60_1 : w58.cell? ⟨gb721, 1, none⟩ = some (.int .i64 a0_1) := (blk_cell BK721.out 1).trans rfl; have hcz60_2 : w58.cell? ⟨gb721, 2, none⟩ = some (.int .i64 a0_2) := (blk_cell BK721.out 2).trans rfl; have hcz60_3 : w58.cell? ⟨gb721, 3, none⟩ = some (.int .i64 a0_3) := (blk_cell BK721.out 3).trans rfl; have hcz60_4 : w58.cell? ⟨gb721, 4, none⟩ = some (.int .i64 a0_4) := (blk_cell BK721.out 4).trans rfl; have hfz60_0 := blk_frozen BK721.out 0; have hfz60_1 := blk_frozen BK721.out 1; have hfz60_2 := blk_frozen BK721.out 2; have hfz60_3 := blk_frozen BK721.out 3; have hfz60_4 := blk_frozen BK721.out 4) | ((with_reducible refine gate_callee (f := 16) rfl ?_); refine goesL_ (some 12) rfl rfl Try.func16 (by kernel_rfl) rfl #[.agg #[.string a0_0, .int .i64 a0_1, .int .i64 a0_2, .int .i64 a0_3, .int .i64 a0_4], .int .i64 1048576] rfl (by (try simp only [List.map_toArray, List.map_cons, List.map_nil]); first | done | rfl | (simp only [List.length_drop, List.length_take]; rfl)) ?_; (with_reducible refine (laws_szInstr.calls a0_0 a0_1 a0_2 a0_3 a0_4 1048576 t723 _ A3.out).mono ?_); rintro e w61 ⟨rfl, hb⟩; refine ⟨_, rfl, ?_⟩; have n0_ := Aside0.mk (blk_below (g := gb721) (o := .cells #[.string a0_0, .int .i64 a0_1, .int .i64 a0_2, .int .i64 a0_3, .int .i64 a0_4] 32 (0, 0)) (by (with_reducible repeat (first | refine blk_drewN ?_ _ | refine blk_drew ?_ | refine blk_alloc ?_ _)); exact BK721.out) hb); have n1_ := Aside0.mk (blk_below (g := gb722) (o := .cells #[.string a1_0, .int .i64 a1_1, .int .i64 a1_2, .int .i64 a1_3, .int .i64 a1_4] 32 (0, 0)) (by (with_reducible repeat (first | refine blk_drewN ?_ _ | refine blk_drew ?_ | refine blk_alloc ?_ _)); exact BK722.out) hb); have n2_ := Aside0.mk (below_step (by repeat (first | (with_reducible first | exact HB.out | apply below_alloc | apply pw_below_drewN | apply below_drew1 | refine below_set ?_ GE721.out | refine below_set ?_ GE722.out) | exact HB.out)) hb); clear BK721; clear BK722; clear HB; have BK721 := n0_; have BK722 := n1_; have HB := n2_; clear n0_ n1_ n2_; (try clear hb); (try clear hb2); (try clear hk); (try clear hi); have hcz62_0 : w61.cell? ⟨gb722, 0, none⟩ = some (.string a1_0) := (blk_cell BK722.out 0).trans rfl; have hcz62_1 : w61.cell? ⟨gb722, 1, none⟩ = some (.int .i64 a1_1) := (blk_cell BK722.out 1).trans rfl; have hcz62_2 : w61.cell? ⟨gb722, 2, none⟩ = some (.int .i64 a1_2) := (blk_cell BK722.out 2).trans rfl; have hcz62_3 : w61.cell? ⟨gb722, 3, none⟩ = some (.int .i64 a1_3) := (blk_cell BK722.out 3).trans rfl; have hcz62_4 : w61.cell? ⟨gb722, 4, none⟩ = some (.int .i64 a1_4) := (blk_cell BK722.out 4).trans rfl; have hfz62_0 := blk_frozen BK722.out 0; have hfz62_1 := blk_frozen BK722.out 1; have hfz62_2 := blk_frozen BK722.out 2; have hfz62_3 := blk_frozen BK722.out 3; have hfz62_4 := blk_frozen BK722.out 4) | ((with_reducible refine gate_callee (f := 16) rfl ?_); refine goesL_ (some 17) rfl rfl Try.func16 (by kernel_rfl) rfl #[.agg #[.string a1_0, .int .i64 a1_1, .int .i64 a1_2, .int .i64 a1_3, .int .i64 a1_4], .int .i64 t723] rfl (by (try simp only [List.map_toArray, List.map_cons, List.map_nil]); first | done | rfl | (simp only [List.length_drop, List.length_take]; rfl)) ?_; (with_reducible refine (laws_szInstr.calls a1_0 a1_1 a1_2 a1_3 a1_4 t723 t724 _ A10.out).mono ?_); rintro e w63 ⟨rfl, hb⟩; refine ⟨_, rfl, ?_⟩; have n0_ := Aside0.mk (blk_below (g := gb721) (o := .cells #[.string a0_0, .int .i64 a0_1, .int .i64 a0_2, .int .i64 a0_3, .int .i64 a0_4] 32 (0, 0)) (by (with_reducible repeat (first | refine blk_drewN ?_ _ | refine blk_drew ?_ | refine blk_alloc ?_ _)); exact BK721.out) hb); have n1_ := Aside0.mk (blk_below (g := gb722) (o := .cells #[.string a1_0, .int .i64 a1_1, .int .i64 a1_2, .int .i64 a1_3, .int .i64 a1_4] 32 (0, 0)) (by (with_reducible repeat (first | refine blk_drewN ?_ _ | refine blk_drew ?_ | refine blk_alloc ?_ _)); exact BK722.out) hb); have n2_ := Aside0.mk (below_step (by repeat (first | (with_reducible first | exact HB.out | apply below_alloc | apply pw_below_drewN | apply below_drew1 | refine below_set ?_ GE721.out | refine below_set ?_ GE722.out) | exact HB.out)) hb); clear BK721; clear BK722; clear HB; have BK721 := n0_; have BK722 := n1_; have HB := n2_; clear n0_ n1_ n2_; (try clear hb); (try clear hb2); (try clear hk); (try clear hi)))
          have n0_ := Aside0.mk (blk_drew BK721.out)
          have n1_ := Aside0.mk (blk_drew BK722.out)
          have n2_ := Aside0.mk (below_drew1 HB.out)
          clear BK721
          clear BK722
          clear HB
          have BK721 := n0_
          have BK722 := n1_
          have HB := n2_
          clear n0_ n1_ n2_
          refine start_ (n := 10) (S := fun w' => w'.cell? ⟨gb721, 0, none⟩ = some (.string a0_0) ∧ w'.cell? ⟨gb721, 1, none⟩ = some (.int .i64 a0_1) ∧ w'.cell? ⟨gb721, 2, none⟩ = some (.int .i64 a0_2) ∧ w'.cell? ⟨gb721, 3, none⟩ = some (.int .i64 a0_3) ∧ w'.cell? ⟨gb721, 4, none⟩ = some (.int .i64 a0_4) ∧ w'.cell? ⟨gb722, 0, none⟩ = some (.string a1_0) ∧ w'.cell? ⟨gb722, 1, none⟩ = some (.int .i64 a1_1) ∧ w'.cell? ⟨gb722, 2, none⟩ = some (.int .i64 a1_2) ∧ w'.cell? ⟨gb722, 3, none⟩ = some (.int .i64 a1_3) ∧ w'.cell? ⟨gb722, 4, none⟩ = some (.int .i64 a1_4)) (ds := []) #[false, false, false, false, false, false, false, false, false, false] (by kernel_rfl) rfl rfl ⟨(blk_cell BK721.out 0).trans rfl, (blk_cell BK721.out 1).trans rfl, (blk_cell BK721.out 2).trans rfl, (blk_cell BK721.out 3).trans rfl, (blk_cell BK721.out 4).trans rfl, (blk_cell BK722.out 0).trans rfl, (blk_cell BK722.out 1).trans rfl, (blk_cell BK722.out 2).trans rfl, (blk_cell BK722.out 3).trans rfl, (blk_cell BK722.out 4).trans rfl⟩ (fun hHeld => ?_); refine with_tabW laws_FnExactAreIndependent.tab8 laws_FnExactAreIndependent.bits8 (fun HT_ HW_ => ?_)
          generalize w63.drew = w64 at BK721 BK722 HB hHeld ⊢
          refine take_ (i := 0) (N := some 21) (v := ?_) (a' := ?_) #[true, false, false, false, false, false, false, false, false, false] rfl rfl (take_ofW HT_.out HW_.out (by kernel_rfl)) (fun _ _ _ h => h) (Or.inl ⟨by rfl, ?_⟩) hHeld ?_ ?_
          rotate_left
          · rintro w' ⟨s0, s1, s2, s3, s4, s5, s6, s7, s8, s9⟩
            go_simp
            with_reducible rfl
          rotate_left
          · simp only [Act.put, List.setIfInBounds_toArray, List.set_cons_zero, List.set_cons_succ, i64_w, i32_w]
            rfl
          refine take_ (i := 2) (N := some 23) (v := ?_) (a' := ?_) #[true, false, true, false, false, false, false, false, false, false] rfl rfl (take_ofW HT_.out HW_.out (by kernel_rfl)) (fun _ _ _ h => h) (Or.inl ⟨by rfl, ?_⟩) hHeld ?_ ?_
          rotate_left
          · rintro w' ⟨s0, s1, s2, s3, s4, s5, s6, s7, s8, s9⟩
            go_simp
            with_reducible rfl
          rotate_left
          · simp only [Act.put, List.setIfInBounds_toArray, List.set_cons_zero, List.set_cons_succ, i64_w, i32_w]
            rfl
          refine one_ (i := 1) (N := some 22) #[true, true, true, false, false, false, false, false, false, false] rfl rfl (one_of HT_.out (by kernel_rfl)) (by decide) (fun K hK => ?_)
          refine goes_ Try.func18 (by kernel_rfl) rfl #[.agg #[.string a0_0, .int .i64 a0_1, .int .i64 a0_2, .int .i64 a0_3, .int .i64 a0_4]] (by rfl) rfl rfl (by (try simp only [List.map_toArray, List.map_cons, List.map_nil]); first | done | rfl | (simp only [List.length_drop, List.length_take]; rfl)) ?_
          with_reducible refine (laws_toInstr.calls a0_0 a0_1 a0_2 a0_3 a0_4 t725 t726 t727 t728 t729 _ A19.out).mono ?_
          rintro e w65 ⟨rfl, hb⟩
          refine ⟨_, rfl, ?_⟩
          have n0_ := Aside0.mk (blk_below (g := gb721) (o := .cells #[.string a0_0, .int .i64 a0_1, .int .i64 a0_2, .int .i64 a0_3, .int .i64 a0_4] 32 (0, 0)) (by (with_reducible repeat (first | refine blk_drewN ?_ _ | refine blk_drew ?_ | refine blk_alloc ?_ _)); exact BK721.out) hb)
          have n1_ := Aside0.mk (blk_below (g := gb722) (o := .cells #[.string a1_0, .int .i64 a1_1, .int .i64 a1_2, .int .i64 a1_3, .int .i64 a1_4] 32 (0, 0)) (by (with_reducible repeat (first | refine blk_drewN ?_ _ | refine blk_drew ?_ | refine blk_alloc ?_ _)); exact BK722.out) hb)
          have n2_ := Aside0.mk (below_step (by repeat (first | (with_reducible first | exact HB.out | apply below_alloc | apply pw_below_drewN | apply below_drew1 | refine below_set ?_ GE721.out | refine below_set ?_ GE722.out) | exact HB.out)) hb)
          clear BK721
          clear BK722
          clear HB
          have BK721 := n0_
          have BK722 := n1_
          have HB := n2_
          clear n0_ n1_ n2_
          (try clear hb)
          (try clear hb2)
          (try clear hk)
          (try clear hi)
          refine hK.out _ _ ⟨(blk_cell BK721.out 0).trans rfl, (blk_cell BK721.out 1).trans rfl, (blk_cell BK721.out 2).trans rfl, (blk_cell BK721.out 3).trans rfl, (blk_cell BK721.out 4).trans rfl, (blk_cell BK722.out 0).trans rfl, (blk_cell BK722.out 1).trans rfl, (blk_cell BK722.out 2).trans rfl, (blk_cell BK722.out 3).trans rfl, (blk_cell BK722.out 4).trans rfl⟩ (fun hHeld => ?_)
          clear hK K
          refine norm_ (a' := ?_) ?_ ?_
          rotate_left
          · show Act.put _ (some 22) _ = _
            simp only [Act.put, List.setIfInBounds_toArray, List.set_cons_zero, List.set_cons_succ, i64_w, i32_w]
            rfl
          refine one_ (i := 3) (N := some 24) #[true, true, true, true, false, false, false, false, false, false] rfl rfl (one_of HT_.out (by kernel_rfl)) (by decide) (fun K hK => ?_)
          refine goes_ Try.func18 (by kernel_rfl) rfl #[.agg #[.string a1_0, .int .i64 a1_1, .int .i64 a1_2, .int .i64 a1_3, .int .i64 a1_4]] (by rfl) rfl rfl (by (try simp only [List.map_toArray, List.map_cons, List.map_nil]); first | done | rfl | (simp only [List.length_drop, List.length_take]; rfl)) ?_
          with_reducible refine (laws_toInstr.calls a1_0 a1_1 a1_2 a1_3 a1_4 t730 t731 t732 t733 t734 _ A20.out).mono ?_
          rintro e w66 ⟨rfl, hb⟩
          refine ⟨_, rfl, ?_⟩
          have n0_ := Aside0.mk (blk_below (g := gb721) (o := .cells #[.string a0_0, .int .i64 a0_1, .int .i64 a0_2, .int .i64 a0_3, .int .i64 a0_4] 32 (0, 0)) (by (with_reducible repeat (first | refine blk_drewN ?_ _ | refine blk_drew ?_ | refine blk_alloc ?_ _)); exact BK721.out) hb)
          have n1_ := Aside0.mk (blk_below (g := gb722) (o := .cells #[.string a1_0, .int .i64 a1_1, .int .i64 a1_2, .int .i64 a1_3, .int .i64 a1_4] 32 (0, 0)) (by (with_reducible repeat (first | refine blk_drewN ?_ _ | refine blk_drew ?_ | refine blk_alloc ?_ _)); exact BK722.out) hb)
          have n2_ := Aside0.mk (below_step (by repeat (first | (with_reducible first | exact HB.out | apply below_alloc | apply pw_below_drewN | apply below_drew1 | refine below_set ?_ GE721.out | refine below_set ?_ GE722.out) | exact HB.out)) hb)
          clear BK721
          clear BK722
          clear HB
          have BK721 := n0_
          have BK722 := n1_
          have HB := n2_
          clear n0_ n1_ n2_
          (try clear hb)
          (try clear hb2)
          (try clear hk)
          (try clear hi)
          refine hK.out _ _ ⟨(blk_cell BK721.out 0).trans rfl, (blk_cell BK721.out 1).trans rfl, (blk_cell BK721.out 2).trans rfl, (blk_cell BK721.out 3).trans rfl, (blk_cell BK721.out 4).trans rfl, (blk_cell BK722.out 0).trans rfl, (blk_cell BK722.out 1).trans rfl, (blk_cell BK722.out 2).trans rfl, (blk_cell BK722.out 3).trans rfl, (blk_cell BK722.out 4).trans rfl⟩ (fun hHeld => ?_)
          clear hK K
          refine norm_ (a' := ?_) ?_ ?_
          rotate_left
          · show Act.put _ (some 24) _ = _
            simp only [Act.put, List.setIfInBounds_toArray, List.set_cons_zero, List.set_cons_succ, i64_w, i32_w]
            rfl
          refine one_ (i := 4) (N := some 25) #[true, true, true, true, true, false, false, false, false, false] rfl rfl (one_of HT_.out (by kernel_rfl)) (by decide) (fun K hK => ?_)
          refine goes_ Try.func23 (by kernel_rfl) rfl #[.agg #[.string t725, .int .i64 t726, .int .i64 t727, .int .i64 t728, .int .i64 t729], .agg #[.string t730, .int .i64 t731, .int .i64 t732, .int .i64 t733, .int .i64 t734]] (by rfl) rfl rfl (by (try simp only [List.map_toArray, List.map_cons, List.map_nil]); first | done | rfl | (simp only [List.length_drop, List.length_take]; rfl)) ?_
          with_reducible refine (spec_AreIndependent.calls k t725 t726 t727 t728 t729 t730 t731 t732 t733 t734 t735 t736 _ A21.out).mono ?_
          rintro e w67 ⟨rfl, hb⟩
          refine ⟨_, rfl, ?_⟩
          have n0_ := Aside0.mk (blk_below (g := gb721) (o := .cells #[.string a0_0, .int .i64 a0_1, .int .i64 a0_2, .int .i64 a0_3, .int .i64 a0_4] 32 (0, 0)) (by (with_reducible repeat (first | refine blk_drewN ?_ _ | refine blk_drew ?_ | refine blk_alloc ?_ _)); exact BK721.out) hb)
          have n1_ := Aside0.mk (blk_below (g := gb722) (o := .cells #[.string a1_0, .int .i64 a1_1, .int .i64 a1_2, .int .i64 a1_3, .int .i64 a1_4] 32 (0, 0)) (by (with_reducible repeat (first | refine blk_drewN ?_ _ | refine blk_drew ?_ | refine blk_alloc ?_ _)); exact BK722.out) hb)
          have n2_ := Aside0.mk (below_step (by repeat (first | (with_reducible first | exact HB.out | apply below_alloc | apply pw_below_drewN | apply below_drew1 | refine below_set ?_ GE721.out | refine below_set ?_ GE722.out) | exact HB.out)) hb)
          clear BK721
          clear BK722
          clear HB
          have BK721 := n0_
          have BK722 := n1_
          have HB := n2_
          clear n0_ n1_ n2_
          (try clear hb)
          (try clear hb2)
          (try clear hk)
          (try clear hi)
          refine hK.out _ _ ⟨(blk_cell BK721.out 0).trans rfl, (blk_cell BK721.out 1).trans rfl, (blk_cell BK721.out 2).trans rfl, (blk_cell BK721.out 3).trans rfl, (blk_cell BK721.out 4).trans rfl, (blk_cell BK722.out 0).trans rfl, (blk_cell BK722.out 1).trans rfl, (blk_cell BK722.out 2).trans rfl, (blk_cell BK722.out 3).trans rfl, (blk_cell BK722.out 4).trans rfl⟩ (fun hHeld => ?_)
          clear hK K
          refine norm_ (a' := ?_) ?_ ?_
          rotate_left
          · show Act.put _ (some 25) _ = _
            simp only [Act.put, List.setIfInBounds_toArray, List.set_cons_zero, List.set_cons_succ, i64_w, i32_w]
            rfl
          refine pure_ (i := 5) (N := some 20) (v := ?_) (a' := ?_) #[true, true, true, true, true, true, false, false, false, false] rfl rfl (any_of HT_.out (by kernel_rfl)) (fun _ _ _ h => h) (Or.inl ⟨by rfl, ?_⟩) ?_ ?_
          rotate_left
          · intro w'
            go_simp
            with_reducible rfl
          rotate_left
          · simp only [Act.put, List.setIfInBounds_toArray, List.set_cons_zero, List.set_cons_succ, i64_w, i32_w]
            rfl
          refine pure_ (i := 6) (N := some 26) (v := ?_) (a' := ?_) #[true, true, true, true, true, true, true, false, false, false] rfl rfl (any_of HT_.out (by kernel_rfl)) (fun _ _ _ h => h) (Or.inl ⟨by rfl, ?_⟩) ?_ ?_
          rotate_left
          · intro w'
            go_simp
            with_reducible rfl
          rotate_left
          · simp only [Act.put, List.setIfInBounds_toArray, List.set_cons_zero, List.set_cons_succ, i64_w, i32_w]
            rfl
          refine pure_ (i := 7) (N := some 27) (v := ?_) (a' := ?_) #[true, true, true, true, true, true, true, true, false, false] rfl rfl (any_of HT_.out (by kernel_rfl)) (fun _ _ _ h => h) (Or.inl ⟨by rfl, ?_⟩) ?_ ?_
          rotate_left
          · intro w'
            go_simp
            with_reducible rfl
          rotate_left
          · simp only [Act.put, List.setIfInBounds_toArray, List.set_cons_zero, List.set_cons_succ, i64_w, i32_w]
            rfl
          refine pure_ (i := 8) (N := some 6) (v := ?_) (a' := ?_) #[true, true, true, true, true, true, true, true, true, false] rfl rfl (any_of HT_.out (by kernel_rfl)) (fun _ _ _ h => h) (Or.inl ⟨by rfl, ?_⟩) ?_ ?_
          rotate_left
          · intro w'
            go_simp
            with_reducible rfl
          rotate_left
          · simp only [Act.put, List.setIfInBounds_toArray, List.set_cons_zero, List.set_cons_succ, i64_w, i32_w]
            rfl
          refine pure_ (i := 9) (N := some 7) (v := ?_) (a' := ?_) #[true, true, true, true, true, true, true, true, true, true] rfl rfl (any_of HT_.out (by kernel_rfl)) (fun _ _ _ h => h) (Or.inl ⟨by rfl, ?_⟩) ?_ ?_
          rotate_left
          · intro w'
            go_simp
            with_reducible rfl
          rotate_left
          · simp only [Act.put, List.setIfInBounds_toArray, List.set_cons_zero, List.set_cons_succ, i64_w, i32_w]
            rfl
          refine done_ (done_of HT_.out (by kernel_rfl)) ?_
          try go_wp2
          have n0_ := Aside0.mk (blk_drew BK721.out)
          have n1_ := Aside0.mk (blk_drew BK722.out)
          have n2_ := Aside0.mk (below_drew1 HB.out)
          clear BK721
          clear BK722
          clear HB
          have BK721 := n0_
          have BK722 := n1_
          have HB := n2_
          clear n0_ n1_ n2_
          refine start_ (n := 10) (S := fun w' => w'.cell? ⟨gb721, 0, none⟩ = some (.string a0_0) ∧ w'.cell? ⟨gb721, 1, none⟩ = some (.int .i64 a0_1) ∧ w'.cell? ⟨gb721, 2, none⟩ = some (.int .i64 a0_2) ∧ w'.cell? ⟨gb721, 3, none⟩ = some (.int .i64 a0_3) ∧ w'.cell? ⟨gb721, 4, none⟩ = some (.int .i64 a0_4) ∧ w'.cell? ⟨gb722, 0, none⟩ = some (.string a1_0) ∧ w'.cell? ⟨gb722, 1, none⟩ = some (.int .i64 a1_1) ∧ w'.cell? ⟨gb722, 2, none⟩ = some (.int .i64 a1_2) ∧ w'.cell? ⟨gb722, 3, none⟩ = some (.int .i64 a1_3) ∧ w'.cell? ⟨gb722, 4, none⟩ = some (.int .i64 a1_4)) (ds := []) #[false, false, false, false, false, false, false, false, false, false] (by kernel_rfl) rfl rfl ⟨(blk_cell BK721.out 0).trans rfl, (blk_cell BK721.out 1).trans rfl, (blk_cell BK721.out 2).trans rfl, (blk_cell BK721.out 3).trans rfl, (blk_cell BK721.out 4).trans rfl, (blk_cell BK722.out 0).trans rfl, (blk_cell BK722.out 1).trans rfl, (blk_cell BK722.out 2).trans rfl, (blk_cell BK722.out 3).trans rfl, (blk_cell BK722.out 4).trans rfl⟩ (fun hHeld => ?_); refine with_tabW laws_FnExactAreIndependent.tab9 laws_FnExactAreIndependent.bits9 (fun HT_ HW_ => ?_)
          generalize w67.drew = w68 at BK721 BK722 HB hHeld ⊢
          refine take_ (i := 0) (N := some 29) (v := ?_) (a' := ?_) #[true, false, false, false, false, false, false, false, false, false] rfl rfl (take_ofW HT_.out HW_.out (by kernel_rfl)) (fun _ _ _ h => h) (Or.inl ⟨by rfl, ?_⟩) hHeld ?_ ?_
          rotate_left
          · rintro w' ⟨s0, s1, s2, s3, s4, s5, s6, s7, s8, s9⟩
            go_simp
            with_reducible rfl
          rotate_left
          · simp only [Act.put, List.setIfInBounds_toArray, List.set_cons_zero, List.set_cons_succ, i64_w, i32_w]
            rfl
          refine take_ (i := 2) (N := some 31) (v := ?_) (a' := ?_) #[true, false, true, false, false, false, false, false, false, false] rfl rfl (take_ofW HT_.out HW_.out (by kernel_rfl)) (fun _ _ _ h => h) (Or.inl ⟨by rfl, ?_⟩) hHeld ?_ ?_
          rotate_left
          · rintro w' ⟨s0, s1, s2, s3, s4, s5, s6, s7, s8, s9⟩
            go_simp
            with_reducible rfl
          rotate_left
          · simp only [Act.put, List.setIfInBounds_toArray, List.set_cons_zero, List.set_cons_succ, i64_w, i32_w]
            rfl
          refine one_ (i := 1) (N := some 30) #[true, true, true, false, false, false, false, false, false, false] rfl rfl (one_of HT_.out (by kernel_rfl)) (by decide) (fun K hK => ?_)
          refine goes_ Try.func18 (by kernel_rfl) rfl #[.agg #[.string a0_0, .int .i64 a0_1, .int .i64 a0_2, .int .i64 a0_3, .int .i64 a0_4]] (by rfl) rfl rfl (by (try simp only [List.map_toArray, List.map_cons, List.map_nil]); first | done | rfl | (simp only [List.length_drop, List.length_take]; rfl)) ?_
          with_reducible refine (laws_toInstr.calls a0_0 a0_1 a0_2 a0_3 a0_4 t737 t738 t739 t740 t741 _ A22.out).mono ?_
          rintro e w69 ⟨rfl, hb⟩
          refine ⟨_, rfl, ?_⟩
          have n0_ := Aside0.mk (blk_below (g := gb721) (o := .cells #[.string a0_0, .int .i64 a0_1, .int .i64 a0_2, .int .i64 a0_3, .int .i64 a0_4] 32 (0, 0)) (by (with_reducible repeat (first | refine blk_drewN ?_ _ | refine blk_drew ?_ | refine blk_alloc ?_ _)); exact BK721.out) hb)
          have n1_ := Aside0.mk (blk_below (g := gb722) (o := .cells #[.string a1_0, .int .i64 a1_1, .int .i64 a1_2, .int .i64 a1_3, .int .i64 a1_4] 32 (0, 0)) (by (with_reducible repeat (first | refine blk_drewN ?_ _ | refine blk_drew ?_ | refine blk_alloc ?_ _)); exact BK722.out) hb)
          have n2_ := Aside0.mk (below_step (by repeat (first | (with_reducible first | exact HB.out | apply below_alloc | apply pw_below_drewN | apply below_drew1 | refine below_set ?_ GE721.out | refine below_set ?_ GE722.out) | exact HB.out)) hb)
          clear BK721
          clear BK722
          clear HB
          have BK721 := n0_
          have BK722 := n1_
          have HB := n2_
          clear n0_ n1_ n2_
          (try clear hb)
          (try clear hb2)
          (try clear hk)
          (try clear hi)
          refine hK.out _ _ ⟨(blk_cell BK721.out 0).trans rfl, (blk_cell BK721.out 1).trans rfl, (blk_cell BK721.out 2).trans rfl, (blk_cell BK721.out 3).trans rfl, (blk_cell BK721.out 4).trans rfl, (blk_cell BK722.out 0).trans rfl, (blk_cell BK722.out 1).trans rfl, (blk_cell BK722.out 2).trans rfl, (blk_cell BK722.out 3).trans rfl, (blk_cell BK722.out 4).trans rfl⟩ (fun hHeld => ?_)
          clear hK K
          refine norm_ (a' := ?_) ?_ ?_
          rotate_left
          · show Act.put _ (some 30) _ = _
            simp only [Act.put, List.setIfInBounds_toArray, List.set_cons_zero, List.set_cons_succ, i64_w, i32_w]
            rfl
          refine one_ (i := 3) (N := some 32) #[true, true, true, true, false, false, false, false, false, false] rfl rfl (one_of HT_.out (by kernel_rfl)) (by decide) (fun K hK => ?_)
          refine goes_ Try.func18 (by kernel_rfl) rfl #[.agg #[.string a1_0, .int .i64 a1_1, .int .i64 a1_2, .int .i64 a1_3, .int .i64 a1_4]] (by rfl) rfl rfl (by (try simp only [List.map_toArray, List.map_cons, List.map_nil]); first | done | rfl | (simp only [List.length_drop, List.length_take]; rfl)) ?_
          with_reducible refine (laws_toInstr.calls a1_0 a1_1 a1_2 a1_3 a1_4 t742 t743 t744 t745 t746 _ A23.out).mono ?_
          rintro e w70 ⟨rfl, hb⟩
          refine ⟨_, rfl, ?_⟩
          have n0_ := Aside0.mk (blk_below (g := gb721) (o := .cells #[.string a0_0, .int .i64 a0_1, .int .i64 a0_2, .int .i64 a0_3, .int .i64 a0_4] 32 (0, 0)) (by (with_reducible repeat (first | refine blk_drewN ?_ _ | refine blk_drew ?_ | refine blk_alloc ?_ _)); exact BK721.out) hb)
          have n1_ := Aside0.mk (blk_below (g := gb722) (o := .cells #[.string a1_0, .int .i64 a1_1, .int .i64 a1_2, .int .i64 a1_3, .int .i64 a1_4] 32 (0, 0)) (by (with_reducible repeat (first | refine blk_drewN ?_ _ | refine blk_drew ?_ | refine blk_alloc ?_ _)); exact BK722.out) hb)
          have n2_ := Aside0.mk (below_step (by repeat (first | (with_reducible first | exact HB.out | apply below_alloc | apply pw_below_drewN | apply below_drew1 | refine below_set ?_ GE721.out | refine below_set ?_ GE722.out) | exact HB.out)) hb)
          clear BK721
          clear BK722
          clear HB
          have BK721 := n0_
          have BK722 := n1_
          have HB := n2_
          clear n0_ n1_ n2_
          (try clear hb)
          (try clear hb2)
          (try clear hk)
          (try clear hi)
          refine hK.out _ _ ⟨(blk_cell BK721.out 0).trans rfl, (blk_cell BK721.out 1).trans rfl, (blk_cell BK721.out 2).trans rfl, (blk_cell BK721.out 3).trans rfl, (blk_cell BK721.out 4).trans rfl, (blk_cell BK722.out 0).trans rfl, (blk_cell BK722.out 1).trans rfl, (blk_cell BK722.out 2).trans rfl, (blk_cell BK722.out 3).trans rfl, (blk_cell BK722.out 4).trans rfl⟩ (fun hHeld => ?_)
          clear hK K
          refine norm_ (a' := ?_) ?_ ?_
          rotate_left
          · show Act.put _ (some 32) _ = _
            simp only [Act.put, List.setIfInBounds_toArray, List.set_cons_zero, List.set_cons_succ, i64_w, i32_w]
            rfl
          refine one_ (i := 4) (N := some 33) #[true, true, true, true, true, false, false, false, false, false] rfl rfl (one_of HT_.out (by kernel_rfl)) (by decide) (fun K hK => ?_)
          refine goes_ Try.func24 (by kernel_rfl) rfl #[.agg #[.string t737, .int .i64 t738, .int .i64 t739, .int .i64 t740, .int .i64 t741], .agg #[.string t742, .int .i64 t743, .int .i64 t744, .int .i64 t745, .int .i64 t746]] (by rfl) rfl rfl (by (try simp only [List.map_toArray, List.map_cons, List.map_nil]); first | done | rfl | (simp only [List.length_drop, List.length_take]; rfl)) ?_
          with_reducible refine (impl_AreIndependent.calls k t737 t738 t739 t740 t741 t742 t743 t744 t745 t746 t747 t748 _ A24.out).mono ?_
          rintro e w71 ⟨rfl, hb⟩
          refine ⟨_, rfl, ?_⟩
          have n0_ := Aside0.mk (blk_below (g := gb721) (o := .cells #[.string a0_0, .int .i64 a0_1, .int .i64 a0_2, .int .i64 a0_3, .int .i64 a0_4] 32 (0, 0)) (by (with_reducible repeat (first | refine blk_drewN ?_ _ | refine blk_drew ?_ | refine blk_alloc ?_ _)); exact BK721.out) hb)
          have n1_ := Aside0.mk (blk_below (g := gb722) (o := .cells #[.string a1_0, .int .i64 a1_1, .int .i64 a1_2, .int .i64 a1_3, .int .i64 a1_4] 32 (0, 0)) (by (with_reducible repeat (first | refine blk_drewN ?_ _ | refine blk_drew ?_ | refine blk_alloc ?_ _)); exact BK722.out) hb)
          have n2_ := Aside0.mk (below_step (by repeat (first | (with_reducible first | exact HB.out | apply below_alloc | apply pw_below_drewN | apply below_drew1 | refine below_set ?_ GE721.out | refine below_set ?_ GE722.out) | exact HB.out)) hb)
          clear BK721
          clear BK722
          clear HB
          have BK721 := n0_
          have BK722 := n1_
          have HB := n2_
          clear n0_ n1_ n2_
          (try clear hb)
          (try clear hb2)
          (try clear hk)
          (try clear hi)
          refine hK.out _ _ ⟨(blk_cell BK721.out 0).trans rfl, (blk_cell BK721.out 1).trans rfl, (blk_cell BK721.out 2).trans rfl, (blk_cell BK721.out 3).trans rfl, (blk_cell BK721.out 4).trans rfl, (blk_cell BK722.out 0).trans rfl, (blk_cell BK722.out 1).trans rfl, (blk_cell BK722.out 2).trans rfl, (blk_cell BK722.out 3).trans rfl, (blk_cell BK722.out 4).trans rfl⟩ (fun hHeld => ?_)
          clear hK K
          refine norm_ (a' := ?_) ?_ ?_
          rotate_left
          · show Act.put _ (some 33) _ = _
            simp only [Act.put, List.setIfInBounds_toArray, List.set_cons_zero, List.set_cons_succ, i64_w, i32_w]
            rfl
          refine pure_ (i := 5) (N := some 28) (v := ?_) (a' := ?_) #[true, true, true, true, true, true, false, false, false, false] rfl rfl (any_of HT_.out (by kernel_rfl)) (fun _ _ _ h => h) (Or.inl ⟨by rfl, ?_⟩) ?_ ?_
          rotate_left
          · intro w'
            go_simp
            with_reducible rfl
          rotate_left
          · simp only [Act.put, List.setIfInBounds_toArray, List.set_cons_zero, List.set_cons_succ, i64_w, i32_w]
            rfl
          refine pure_ (i := 6) (N := some 34) (v := ?_) (a' := ?_) #[true, true, true, true, true, true, true, false, false, false] rfl rfl (any_of HT_.out (by kernel_rfl)) (fun _ _ _ h => h) (Or.inl ⟨by rfl, ?_⟩) ?_ ?_
          rotate_left
          · intro w'
            go_simp
            with_reducible rfl
          rotate_left
          · simp only [Act.put, List.setIfInBounds_toArray, List.set_cons_zero, List.set_cons_succ, i64_w, i32_w]
            rfl
          refine pure_ (i := 7) (N := some 35) (v := ?_) (a' := ?_) #[true, true, true, true, true, true, true, true, false, false] rfl rfl (any_of HT_.out (by kernel_rfl)) (fun _ _ _ h => h) (Or.inl ⟨by rfl, ?_⟩) ?_ ?_
          rotate_left
          · intro w'
            go_simp
            with_reducible rfl
          rotate_left
          · simp only [Act.put, List.setIfInBounds_toArray, List.set_cons_zero, List.set_cons_succ, i64_w, i32_w]
            rfl
          refine pure_ (i := 8) (N := some 8) (v := ?_) (a' := ?_) #[true, true, true, true, true, true, true, true, true, false] rfl rfl (any_of HT_.out (by kernel_rfl)) (fun _ _ _ h => h) (Or.inl ⟨by rfl, ?_⟩) ?_ ?_
          rotate_left
          · intro w'
            go_simp
            with_reducible rfl
          rotate_left
          · simp only [Act.put, List.setIfInBounds_toArray, List.set_cons_zero, List.set_cons_succ, i64_w, i32_w]
            rfl
          refine pure_ (i := 9) (N := some 9) (v := ?_) (a' := ?_) #[true, true, true, true, true, true, true, true, true, true] rfl rfl (any_of HT_.out (by kernel_rfl)) (fun _ _ _ h => h) (Or.inl ⟨by rfl, ?_⟩) ?_ ?_
          rotate_left
          · intro w'
            go_simp
            with_reducible rfl
          rotate_left
          · simp only [Act.put, List.setIfInBounds_toArray, List.set_cons_zero, List.set_cons_succ, i64_w, i32_w]
            rfl
          refine done_ (done_of HT_.out (by kernel_rfl)) ?_
          try go_wp2
          go_ret
          exact ⟨by first | rfl | (simp [errW_none, errW_some] <;> rfl) | (simp [*, errW_none, errW_some] <;> rfl), by repeat (first | (with_reducible first | exact HB.out | apply below_alloc | apply pw_below_drewN | apply below_drew1 | refine below_set ?_ GE721.out | refine below_set ?_ GE722.out) | exact HB.out)⟩

end Go.Proofs.Ythnckplfnmkmpaa.F
