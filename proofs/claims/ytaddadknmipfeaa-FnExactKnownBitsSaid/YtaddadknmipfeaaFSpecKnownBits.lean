/- Contracts: spec_KnownBits, impl_KnownBits, laws_eqKnown, laws_FnExactKnownBits. -/
import Derived.Test.YtaddadknmipfeaaFK
import Derived.Test.YtaddadknmipfeaaFLawsSzNode
import Derived.Test.YtaddadknmipfeaaFSpecExGood
import Derived.Test.YtaddadknmipfeaaFImplUses
import Derived.Test.YtaddadknmipfeaaFSpecExAt
namespace Go.Proofs.Ytaddadknmipfeaa.F
open Go.RowKit Go.Proofs.YtaddadknmipfeaaW.PrintWords Go.Proofs.YtaddadknmipfeaaW.PrintLast Go.Proofs.YtaddadknmipfeaaW.PrintMore
attribute [local go_sem] max2_int min2_int max_two min_two max_three min_three max_four min_four   -- for this text's walks alone
set_option linter.unusedVariables false
set_option linter.unusedSimpArgs false

/-! ### spec_KnownBits: function 57 -/
def spec_KnownBits.l0 : Nat → List Int → Int → Int → Int → Int → Option (Int × Int × Bool)
  | 0, _, _, _, _, _ => none
  | k + 1, x13, x14, x15, x1094000, x1094001 => if x15 < x14 then (if 0 ≤ x15 then (if x15 < (x13.length : Int) then (spec_KnownBits.l0 k x13 x14 (wrap64 (x15 + 1)) (Go.bits .andNot .i64 x1094000 (rd x13 x15)) (Go.bits .and .i64 x1094001 (rd x13 x15))) else (none)) else (none)) else (some (x1094000, x1094001, true))
def spec_KnownBits.f (k : Nat) (l0 : List (S89)) : Option (Int × Int × Bool) := (spec_exGood.f k l0).bind fun t1092 => (if t1092 = true then ((spec_exTable.f k l0).bind fun t1094 => (spec_KnownBits.l0 k t1094 (t1094.length : Int) 0 63 63)) else (some (0, 0, false)))
theorem spec_KnownBits.mono_l : ∀ k, (∀ y0 y1 y2 y3 y4, LeO (spec_KnownBits.l0 k y0 y1 y2 y3 y4) (spec_KnownBits.l0 (k + 1) y0 y1 y2 y3 y4))
  | 0 => fun _ _ _ _ _ r h => by simp [spec_KnownBits.l0] at h
  | k + 1 => by
    have ih0 := spec_KnownBits.mono_l k
    · intro y0 y1 y2 y3 y4
      unfold spec_KnownBits.l0
      repeat' first
      | (with_reducible exact ih0 _ _ _ _ _)
      | (with_reducible exact spec_exGood.mono _ _)
      | (with_reducible exact spec_exTable.mono _ _)
      | (with_reducible exact LeO.refl _)
      | (with_reducible exact LeO.none _)
      | (with_reducible refine LeO.ite ?_ ?_)
      | (with_reducible refine LeO.bind ?_ (fun _ => ?_))
      | exact ih0 _ _ _ _ _
      | exact spec_exGood.mono _ _
      | exact spec_exTable.mono _ _
      | exact LeO.none _
      | refine LeO.ite ?_ ?_
      | refine LeO.bind ?_ (fun _ => ?_)
theorem spec_KnownBits.mono : ∀ a0 k, LeO (spec_KnownBits.f k a0) (spec_KnownBits.f (k + 1) a0) := by
  intro a0 k
  have ih0 := spec_KnownBits.mono_l k
  unfold spec_KnownBits.f
  repeat' first
      | (with_reducible exact ih0 _ _ _ _ _)
      | (with_reducible exact spec_exGood.mono _ _)
      | (with_reducible exact spec_exTable.mono _ _)
      | (with_reducible exact LeO.refl _)
      | (with_reducible exact LeO.none _)
      | (with_reducible refine LeO.ite ?_ ?_)
      | (with_reducible refine LeO.bind ?_ (fun _ => ?_))
      | exact ih0 _ _ _ _ _
      | exact spec_exGood.mono _ _
      | exact spec_exTable.mono _ _
      | exact LeO.none _
      | refine LeO.ite ?_ ?_
      | refine LeO.bind ?_ (fun _ => ?_)
set_option maxHeartbeats 8000000 in
set_option maxRecDepth 100000 in
theorem spec_KnownBits.calls (k : Nat) (A0 : Option Addr) (c0 : Nat) (l0 : List (S89)) (r1 : Int) (r2 : Int) (r3 : Bool) (w : World) (hr0 : Kd.C k89 w A0 l0.length l0) (hc0 : l0.length ≤ c0) (h : spec_KnownBits.f k l0 = some (r1, r2, r3)) :
    Calls Try.prog 57 #[.slice A0 l0.length c0] w fun e w' => e = .returned (.tuple #[.agg #[.int .i64 r1, .int .i64 r2], .bool r3]) ∧ Below w.heap.size w w' := by
  have hu62 := Try.underlying62
  have HR0 := Aside0.mk hr0
  have HC0 := Aside0.mk hc0
  clear hr0 hc0
  have HB := Aside0.mk (Below.refl w.heap.size w)
  have H : ((spec_exGood.f k l0).bind fun t1092 => (if t1092 = true then ((spec_exTable.f k l0).bind fun t1094 => (spec_KnownBits.l0 k t1094 (t1094.length : Int) 0 63 63)) else (some (0, 0, false)))) = some (r1, r2, r3) := h
  clear h
  replace H := Option.bind_eq_some_iff.mp H
  obtain ⟨t1092, A20, H⟩ := H
  replace H : (if t1092 = true then ((spec_exTable.f k l0).bind fun t1094 => (spec_KnownBits.l0 k t1094 (t1094.length : Int) 0 63 63)) else (some (0, 0, false))) = some (r1, r2, r3) := H
  have A2 := Aside0.mk A20
  clear A20
  by_cases c3 : t1092 = true
  · subst c3
    have H1 : ((spec_exTable.f k l0).bind fun t1094 => (spec_KnownBits.l0 k t1094 (t1094.length : Int) 0 63 63)) = some (r1, r2, r3) := by rw [if_pos rfl] at H; exact H
    clear H
    have H := H1
    clear H1
    replace H := Option.bind_eq_some_iff.mp H
    obtain ⟨t1094, A40, H⟩ := H
    replace H : (spec_KnownBits.l0 k t1094 (t1094.length : Int) 0 63 63) = some (r1, r2, r3) := H
    have A4 := Aside0.mk A40
    clear A40
    have H' := Aside0.mk H
    clear H
    go_enter Try.func57, Try.ntmps57
    go_wp2_with (first | ((with_reducible refine gate_dst (N := 2) rfl ?_); refine box_event ?hg (N := 2) ?hd (cs := #[.int .i64 0, .int .i64 0]) (t := 62) ?hr ?_; (case hd => rfl); (case hg => rfl); (case hr => first | (go_simp; done) | (go_simp; rfl)); intro gb1091 hg w5 hbox hb; have n0_ := Aside0.mk (below_step (by repeat (first | (with_reducible first | exact HB.out | apply below_alloc | apply pw_below_drewN | apply below_drew1) | exact HB.out)) hb); have n1_ := Aside0.mk (hbox); have n2_ := Aside0.mk ((by rw [hg]; exact (below_size (by repeat (first | (with_reducible first | exact HB.out | apply below_alloc | apply pw_below_drewN | apply below_drew1) | exact HB.out))) : w.heap.size ≤ gb1091)); have n3_ := Aside0.mk ((by rw [hg]; exact (below_size (by repeat (first | (with_reducible first | exact HB.out | apply below_alloc | apply pw_below_drewN | apply below_drew1) | exact HB.out))) : w.heap.size ≤ gb1091)); clear HB; have HB := n0_; have BK1091 := n1_; have GW1091 := n2_; have GE1091 := n3_; clear n0_ n1_ n2_ n3_; clear hb hbox hg) | ((with_reducible refine gate_callee (f := 87) rfl ?_); refine goesL_ (some 8) rfl rfl Try.func87 (by kernel_rfl) rfl #[.slice A0 l0.length c0] rfl (by (try simp only [List.map_toArray, List.map_cons, List.map_nil]); first | done | rfl | (simp only [List.length_drop, List.length_take]; rfl)) ?_; (with_reducible refine (spec_exGood.calls k _ _ l0 true _ ?side1 ?side2 A2.out).mono ?_); (case side1 => repeat (first | exact (Kd.C_below HR0.out HB.out) | (with_reducible refine Kd.C_alloc ?_ _) | (with_reducible refine Kd.C_drewN ?_ _) | (with_reducible refine Kd.C_drew ?_))); (case side2 => exact HC0.out); rintro e w6 ⟨rfl, hb⟩; refine ⟨_, rfl, ?_⟩; have n0_ := Aside0.mk (blk_below (g := gb1091) (o := .cells #[.int .i64 0, .int .i64 0] 62 (0, 0)) (by (with_reducible repeat (first | refine blk_drewN ?_ _ | refine blk_drew ?_ | refine blk_alloc ?_ _)); exact BK1091.out) hb); have n1_ := Aside0.mk (below_step (by repeat (first | (with_reducible first | exact HB.out | apply below_alloc | apply pw_below_drewN | apply below_drew1 | refine below_set ?_ GE1091.out) | exact HB.out)) hb); clear BK1091; clear HB; have BK1091 := n0_; have HB := n1_; clear n0_ n1_; (try clear hb); (try clear hb2); (try clear hk); (try clear hi)) | ((with_reducible refine gate_dst (N := 4) rfl ?_); refine box_event ?hg (N := 4) ?hd (cs := #[.int .i64 0, .int .i64 0]) (t := 62) ?hr ?_; (case hd => rfl); (case hg => rfl); (case hr => first | (go_simp; done) | (go_simp; rfl)); intro gb1093 hg w7 hbox hb; have n0_ := Aside0.mk (blk_below (g := gb1091) (o := .cells #[.int .i64 0, .int .i64 0] 62 (0, 0)) (by (with_reducible repeat (first | refine blk_drewN ?_ _ | refine blk_drew ?_ | refine blk_alloc ?_ _)); exact BK1091.out) hb); have n1_ := Aside0.mk (below_step (by repeat (first | (with_reducible first | exact HB.out | apply below_alloc | apply pw_below_drewN | apply below_drew1 | refine below_set ?_ GE1091.out) | exact HB.out)) hb); have n2_ := Aside0.mk (hbox); have n3_ := Aside0.mk ((by rw [hg]; exact (below_size (by repeat (first | (with_reducible first | exact HB.out | apply below_alloc | apply pw_below_drewN | apply below_drew1 | refine below_set ?_ GE1091.out) | exact HB.out))) : w.heap.size ≤ gb1093)); have n4_ := Aside0.mk ((by rw [hg]; exact (below_size (by repeat (first | (with_reducible first | exact HB.out | apply below_alloc | apply pw_below_drewN | apply below_drew1 | refine below_set ?_ GE1091.out) | exact HB.out))) : w.heap.size ≤ gb1093)); have n5_ := Aside0.mk ((by rw [hg]; exact Nat.ne_of_lt (blk_lt (g := gb1091) (o := .cells #[.int .i64 0, .int .i64 0] 62 (0, 0)) (by (with_reducible repeat (first | refine blk_drewN ?_ _ | refine blk_drew ?_ | refine blk_alloc ?_ _)); exact BK1091.out)) : gb1091 ≠ gb1093)); have n6_ := Aside0.mk ((by rw [hg]; exact Nat.ne_of_gt (blk_lt (g := gb1091) (o := .cells #[.int .i64 0, .int .i64 0] 62 (0, 0)) (by (with_reducible repeat (first | refine blk_drewN ?_ _ | refine blk_drew ?_ | refine blk_alloc ?_ _)); exact BK1091.out)) : gb1093 ≠ gb1091)); clear BK1091; clear HB; have BK1091 := n0_; have HB := n1_; have BK1093 := n2_; have GW1093 := n3_; have GE1093 := n4_; have NB1091_1093 := n5_; have NB1093_1091 := n6_; clear n0_ n1_ n2_ n3_ n4_ n5_ n6_; clear hb hbox hg; have hnb8 := NB1093_1091.out; have hnc8 := NB1091_1093.out; have hcz9_0 : w7.cell? ⟨gb1093, 0, none⟩ = some (.int .i64 0) := (blk_cell BK1093.out 0).trans rfl; have hcz9_1 : w7.cell? ⟨gb1093, 1, none⟩ = some (.int .i64 0) := (blk_cell BK1093.out 1).trans rfl; have hfz9_0 := blk_frozen BK1093.out 0; have hfz9_1 := blk_frozen BK1093.out 1) | ((with_reducible refine gate_callee (f := 122) rfl ?_); refine goesL_ (some 13) rfl rfl Try.func122 (by kernel_rfl) rfl #[.slice A0 l0.length c0] rfl (by (try simp only [List.map_toArray, List.map_cons, List.map_nil]); first | done | rfl | (simp only [List.length_drop, List.length_take]; rfl)) ?_; (with_reducible refine (spec_exTable.calls k _ _ l0 t1094 _ ?side1 ?side2 A4.out).mono ?_); (case side1 => exact Kd.C_below HR0.out (by repeat (first | (with_reducible first | exact HB.out | apply below_alloc | apply pw_below_drewN | apply below_drew1 | refine below_set ?_ GE1091.out | refine below_set ?_ GE1093.out) | exact HB.out))); (case side2 => exact HC0.out); rintro e w10 ⟨v1095, rfl, ho0, hb⟩; refine ⟨_, rfl, ?_⟩; have n0_ := Aside0.mk (Kd.R_lower ho0 (below_size (by repeat (first | (with_reducible first | exact HB.out | apply below_alloc | apply pw_below_drewN | apply below_drew1 | refine below_set ?_ GE1091.out | refine below_set ?_ GE1093.out) | exact HB.out)))); have n1_ := Aside0.mk (blk_below (g := gb1091) (o := .cells #[.int .i64 0, .int .i64 0] 62 (0, 0)) (by (with_reducible repeat (first | refine blk_drewN ?_ _ | refine blk_drew ?_ | refine blk_alloc ?_ _)); refine blk_far ?_ NB1091_1093.out _; (with_reducible repeat (first | refine blk_drewN ?_ _ | refine blk_drew ?_ | refine blk_alloc ?_ _)); refine blk_far ?_ NB1091_1093.out _; (with_reducible repeat (first | refine blk_drewN ?_ _ | refine blk_drew ?_ | refine blk_alloc ?_ _)); exact BK1091.out) hb); have n2_ := Aside0.mk (blk_below (g := gb1093) (o := .cells #[.int .i64 63, .int .i64 63] 62 (0, 0)) (by (with_reducible repeat (first | refine blk_drewN ?_ _ | refine blk_drew ?_ | refine blk_alloc ?_ _)); refine blk_put (cs := #[.int .i64 63, .int .i64 0]) ?_ 1 _ rfl; (with_reducible repeat (first | refine blk_drewN ?_ _ | refine blk_drew ?_ | refine blk_alloc ?_ _)); refine blk_put (cs := #[.int .i64 0, .int .i64 0]) ?_ 0 _ rfl; (with_reducible repeat (first | refine blk_drewN ?_ _ | refine blk_drew ?_ | refine blk_alloc ?_ _)); exact BK1093.out) hb); have n3_ := Aside0.mk (below_step (by repeat (first | (with_reducible first | exact HB.out | apply below_alloc | apply pw_below_drewN | apply below_drew1 | refine below_set ?_ GE1091.out | refine below_set ?_ GE1093.out) | exact HB.out)) hb); clear BK1091; clear BK1093; clear HB; have HO1096 := n0_; have BK1091 := n1_; have BK1093 := n2_; have HB := n3_; clear n0_ n1_ n2_ n3_; (try clear hb); (try clear hb2); (try clear hk); (try clear hi); (try clear ho0); obtain ⟨Ao11, co11, eo11⟩ := Kd.R_slice HO1096.out; subst eo11))
    go_loopg [15] k (fun kq v15 w' => ∃ (x15_1 : Int) (x1094000_1 : Int) (x1094001_1 : Int), v15 = .int .i64 x15_1 ∧ Aside0 (spec_KnownBits.l0 kq t1094 (t1094.length : Int) x15_1 x1094000_1 x1094001_1 = some (r1, r2, r3)) ∧ Aside0 (kq ≤ k) ∧ Aside0 (Kd.R (Kd.int .i64) 3 w' w.heap.size (fun _ => True) (.slice Ao11 t1094.length co11) t1094) ∧ Aside0 (w'.heap[gb1091]? = some (.cells #[.int .i64 0, .int .i64 0] 62 (0, 0))) ∧ Aside0 (w'.heap[gb1093]? = some (.cells #[.int .i64 x1094000_1, .int .i64 x1094001_1] 62 (0, 0))) ∧ Aside0 (Below w.heap.size w w'))
    case atStart => exact ⟨(0), (63), (63), (by first | rfl | (simp; done) | (simp [*]; done)), H', ⟨Nat.le_refl _⟩, ⟨by (with_reducible repeat (first | apply Kd.R_alloc | apply Kd.R_drewN | apply Kd.R_drew)); exact HO1096.out⟩, ⟨by (with_reducible repeat (first | refine blk_drewN ?_ _ | refine blk_drew ?_ | refine blk_alloc ?_ _)); exact BK1091.out⟩, ⟨by (with_reducible repeat (first | refine blk_drewN ?_ _ | refine blk_drew ?_ | refine blk_alloc ?_ _)); exact BK1093.out⟩, ⟨by repeat (first | (with_reducible first | exact HB.out | apply below_alloc | apply pw_below_drewN | apply below_drew1 | refine below_set ?_ GE1091.out | refine below_set ?_ GE1093.out) | exact HB.out)⟩⟩
    case round =>
      clear H'
      try clear c1
      try clear p2
      try clear c3
      try clear c5
      try clear c8
      try clear hcz9_0
      try clear hcz9_1
      try clear hfz9_0
      try clear hfz9_1
      obtain ⟨x15_1, x1094000_1, x1094001_1, rfl, HA, HK1, HO_13, BK1091, BK1093, HB⟩ := hrel
      cases gk with
      | zero => exact absurd HA.out (by simp [spec_KnownBits.l0])
      | succ k1 =>
        have H := HA.out
        clear HA
        simp only [spec_KnownBits.l0] at H
        by_cases c12 : x15_1 < (t1094.length : Int)
        · rw [if_pos c12] at H
          have c12b0 : decide (x15_1 < (t1094.length : Int)) = true := decide_eq_true c12
          clear c12
          by_cases c13 : 0 ≤ x15_1
          · rw [if_pos c13] at H
            have c13b0 : decide (0 ≤ x15_1) = true := decide_eq_true c13
            clear c13
            by_cases c14 : x15_1 < (t1094.length : Int)
            · rw [if_pos c14] at H
              have c14b0 : decide (x15_1 < (t1094.length : Int)) = true := decide_eq_true c14
              clear c14
              have H' := Aside0.mk H
              clear H
              have p1097 : 0 ≤ (x15_1 : Int) := of_decide_eq_true (by first | (with_reducible assumption) | assumption)
              have q1097 : x15_1 < (t1094.length : Int) := of_decide_eq_true (by first | (with_reducible assumption) | assumption)
              obtain ⟨ad1097, e1097, hx1097_0⟩ := Kd.at_int (Kd.R_reads' HO_13.out).2.2 x15_1 p1097 q1097
              cases e1097
              replace p1097 := eq_true p1097
              replace q1097 := eq_true q1097
              have hnb15 := NB1093_1091.out
              have hnc15 := NB1091_1093.out
              have hcz16_0 : wr.cell? ⟨gb1093, 0, none⟩ = some (.int .i64 x1094000_1) := (blk_cell BK1093.out 0).trans rfl
              have hcz16_1 : wr.cell? ⟨gb1093, 1, none⟩ = some (.int .i64 x1094001_1) := (blk_cell BK1093.out 1).trans rfl
              have hfz16_0 := blk_frozen BK1093.out 0
              have hfz16_1 := blk_frozen BK1093.out 1
              go_wp2
              go_roundg k1
              case measure => have := HK1.out; omega
              case rel => exact ⟨(wrap64 (x15_1 + 1)), (Go.bits .andNot .i64 x1094000_1 (rd t1094 x15_1)), (Go.bits .and .i64 x1094001_1 (rd t1094 x15_1)), (by first | rfl | (simp; done) | (simp [*]; done)), H', ⟨by have := HK1.out; omega⟩, ⟨by (with_reducible repeat (first | apply Kd.R_alloc | apply Kd.R_drewN | apply Kd.R_drew)); exact Kd.R_mono (Kd.R_far (p := ⟨gb1093, 1, none⟩) (Kd.R_far (p := ⟨gb1093, 0, none⟩) (Kd.R_types HO_13.out BK1093.out (by decide)) (fun _ hk => hk.2) (.int .i64 (Go.bits .andNot .i64 x1094000_1 (rd t1094 x15_1)))) (fun _ hk => hk.2) (.int .i64 (Go.bits .and .i64 x1094001_1 (rd t1094 x15_1)))) (fun _ hk => trivial)⟩, ⟨by (with_reducible repeat (first | refine blk_drewN ?_ _ | refine blk_drew ?_ | refine blk_alloc ?_ _)); refine blk_far ?_ NB1091_1093.out _; (with_reducible repeat (first | refine blk_drewN ?_ _ | refine blk_drew ?_ | refine blk_alloc ?_ _)); refine blk_far ?_ NB1091_1093.out _; (with_reducible repeat (first | refine blk_drewN ?_ _ | refine blk_drew ?_ | refine blk_alloc ?_ _)); exact BK1091.out⟩, ⟨by (with_reducible repeat (first | refine blk_drewN ?_ _ | refine blk_drew ?_ | refine blk_alloc ?_ _)); refine blk_put (cs := #[.int .i64 (Go.bits .andNot .i64 x1094000_1 (rd t1094 x15_1)), .int .i64 x1094001_1]) ?_ 1 _ rfl; (with_reducible repeat (first | refine blk_drewN ?_ _ | refine blk_drew ?_ | refine blk_alloc ?_ _)); refine blk_put (cs := #[.int .i64 x1094000_1, .int .i64 x1094001_1]) ?_ 0 _ rfl; (with_reducible repeat (first | refine blk_drewN ?_ _ | refine blk_drew ?_ | refine blk_alloc ?_ _)); exact BK1093.out⟩, ⟨by repeat (first | (with_reducible first | exact HB.out | apply below_alloc | apply pw_below_drewN | apply below_drew1 | refine below_set ?_ GE1091.out | refine below_set ?_ GE1093.out) | exact HB.out)⟩⟩
            · rw [if_neg c14] at H
              exact absurd H (by simp)
          · rw [if_neg c13] at H
            exact absurd H (by simp)
        · rw [if_neg c12] at H
          have c12b0 : decide (x15_1 < (t1094.length : Int)) = false := decide_eq_false c12
          clear c12
          simp only [Option.some.injEq, Prod.mk.injEq] at H
          obtain ⟨rfl, rfl, rfl⟩ := H
          have hnb17 := NB1093_1091.out
          have hnc17 := NB1091_1093.out
          have hcz18_0 : wr.cell? ⟨gb1093, 0, none⟩ = some (.int .i64 x1094000_1) := (blk_cell BK1093.out 0).trans rfl
          have hcz18_1 : wr.cell? ⟨gb1093, 1, none⟩ = some (.int .i64 x1094001_1) := (blk_cell BK1093.out 1).trans rfl
          have hfz18_0 := blk_frozen BK1093.out 0
          have hfz18_1 := blk_frozen BK1093.out 1
          have hcz19_0 : wr.cell? ⟨gb1091, 0, none⟩ = some (.int .i64 0) := (blk_cell BK1091.out 0).trans rfl
          have hcz19_1 : wr.cell? ⟨gb1091, 1, none⟩ = some (.int .i64 0) := (blk_cell BK1091.out 1).trans rfl
          have hfz19_0 := blk_frozen BK1091.out 0
          have hfz19_1 := blk_frozen BK1091.out 1
          go_wp2
          refine bodyPost_ret (results_ct rfl _ _ gb1091 62 #[.int .i64 x1094000_1, .int .i64 x1094001_1] (0, 0) _ rfl (by (with_reducible repeat (first | refine blk_drewN ?_ _ | refine blk_drew ?_ | refine blk_alloc ?_ _)); refine blk_put (cs := #[.int .i64 x1094000_1, .int .i64 0]) ?_ 1 _ rfl; (with_reducible repeat (first | refine blk_drewN ?_ _ | refine blk_drew ?_ | refine blk_alloc ?_ _)); refine blk_put (cs := #[.int .i64 0, .int .i64 0]) ?_ 0 _ rfl; (with_reducible repeat (first | refine blk_drewN ?_ _ | refine blk_drew ?_ | refine blk_alloc ?_ _)); exact BK1091.out) Try.underlying62 rfl (by kernel_rfl)) rfl ?_
          exact ⟨by first | rfl | (simp [errW_none, errW_some] <;> rfl) | (simp [*, errW_none, errW_some] <;> rfl), by repeat (first | (with_reducible first | exact HB.out | apply below_alloc | apply pw_below_drewN | apply below_drew1 | refine below_set ?_ GE1091.out | refine below_set ?_ GE1093.out) | exact HB.out)⟩
  · replace c3 := Bool.eq_false_iff.mpr c3
    subst c3
    have H1 : (some (0, 0, false)) = some (r1, r2, r3) := by rw [if_neg (show ¬ (false = true) by decide)] at H; exact H
    clear H
    have H := H1
    clear H1
    simp only [Option.some.injEq, Prod.mk.injEq] at H
    obtain ⟨rfl, rfl, rfl⟩ := H
    go_enter Try.func57, Try.ntmps57
    go_wp2_with (first | ((with_reducible refine gate_dst (N := 2) rfl ?_); refine box_event ?hg (N := 2) ?hd (cs := #[.int .i64 0, .int .i64 0]) (t := 62) ?hr ?_; (case hd => rfl); (case hg => rfl); (case hr => first | (go_simp; done) | (go_simp; rfl)); intro gb1091 hg w20 hbox hb; have n0_ := Aside0.mk (below_step (by repeat (first | (with_reducible first | exact HB.out | apply below_alloc | apply pw_below_drewN | apply below_drew1) | exact HB.out)) hb); have n1_ := Aside0.mk (hbox); have n2_ := Aside0.mk ((by rw [hg]; exact (below_size (by repeat (first | (with_reducible first | exact HB.out | apply below_alloc | apply pw_below_drewN | apply below_drew1) | exact HB.out))) : w.heap.size ≤ gb1091)); have n3_ := Aside0.mk ((by rw [hg]; exact (below_size (by repeat (first | (with_reducible first | exact HB.out | apply below_alloc | apply pw_below_drewN | apply below_drew1) | exact HB.out))) : w.heap.size ≤ gb1091)); clear HB; have HB := n0_; have BK1091 := n1_; have GW1091 := n2_; have GE1091 := n3_; clear n0_ n1_ n2_ n3_; clear hb hbox hg) | ((with_reducible refine gate_callee (f := 87) rfl ?_); refine goesL_ (some 8) rfl rfl Try.func87 (by kernel_rfl) rfl #[.slice A0 l0.length c0] rfl (by (try simp only [List.map_toArray, List.map_cons, List.map_nil]); first | done | rfl | (simp only [List.length_drop, List.length_take]; rfl)) ?_; (with_reducible refine (spec_exGood.calls k _ _ l0 false _ ?side1 ?side2 A2.out).mono ?_); (case side1 => repeat (first | exact (Kd.C_below HR0.out HB.out) | (with_reducible refine Kd.C_alloc ?_ _) | (with_reducible refine Kd.C_drewN ?_ _) | (with_reducible refine Kd.C_drew ?_))); (case side2 => exact HC0.out); rintro e w21 ⟨rfl, hb⟩; refine ⟨_, rfl, ?_⟩; have n0_ := Aside0.mk (blk_below (g := gb1091) (o := .cells #[.int .i64 0, .int .i64 0] 62 (0, 0)) (by (with_reducible repeat (first | refine blk_drewN ?_ _ | refine blk_drew ?_ | refine blk_alloc ?_ _)); exact BK1091.out) hb); have n1_ := Aside0.mk (below_step (by repeat (first | (with_reducible first | exact HB.out | apply below_alloc | apply pw_below_drewN | apply below_drew1 | refine below_set ?_ GE1091.out) | exact HB.out)) hb); clear BK1091; clear HB; have BK1091 := n0_; have HB := n1_; clear n0_ n1_; (try clear hb); (try clear hb2); (try clear hk); (try clear hi); have hcz22_0 : w21.cell? ⟨gb1091, 0, none⟩ = some (.int .i64 0) := (blk_cell BK1091.out 0).trans rfl; have hcz22_1 : w21.cell? ⟨gb1091, 1, none⟩ = some (.int .i64 0) := (blk_cell BK1091.out 1).trans rfl; have hfz22_0 := blk_frozen BK1091.out 0; have hfz22_1 := blk_frozen BK1091.out 1))
    refine bodyPost_ret (results_ct rfl _ _ gb1091 62 #[.int .i64 0, .int .i64 0] (0, 0) _ rfl (by (with_reducible repeat (first | refine blk_drewN ?_ _ | refine blk_drew ?_ | refine blk_alloc ?_ _)); refine blk_put (cs := #[.int .i64 0, .int .i64 0]) ?_ 1 _ rfl; (with_reducible repeat (first | refine blk_drewN ?_ _ | refine blk_drew ?_ | refine blk_alloc ?_ _)); refine blk_put (cs := #[.int .i64 0, .int .i64 0]) ?_ 0 _ rfl; (with_reducible repeat (first | refine blk_drewN ?_ _ | refine blk_drew ?_ | refine blk_alloc ?_ _)); exact BK1091.out) Try.underlying62 rfl (by kernel_rfl)) rfl ?_
    exact ⟨by first | rfl | (simp [errW_none, errW_some] <;> rfl) | (simp [*, errW_none, errW_some] <;> rfl), by repeat (first | (with_reducible first | exact HB.out | apply below_alloc | apply pw_below_drewN | apply below_drew1 | refine below_set ?_ GE1091.out) | exact HB.out)⟩

/-! ### impl_KnownBits: function 58 -/
def impl_KnownBits.l0 : Nat → List Int → Int → Int → Int → Int → Option (Int × Int × Bool)
  | 0, _, _, _, _, _ => none
  | k + 1, x13, x14, x15, x1101000, x1101001 => if x15 < x14 then (if 0 ≤ x15 then (if x15 < (x13.length : Int) then (impl_KnownBits.l0 k x13 x14 (wrap64 (x15 + 1)) (Go.bits .andNot .i64 x1101000 (rd x13 x15)) (Go.bits .and .i64 x1101001 (rd x13 x15))) else (none)) else (none)) else (some (x1101000, x1101001, true))
def impl_KnownBits.f (k : Nat) (l0 : List (S89)) : Option (Int × Int × Bool) := (impl_IsExpr.f k l0).bind fun t1099 => (if t1099 = true then ((impl_tableOf.f k l0).bind fun t1101 => (impl_KnownBits.l0 k t1101 (t1101.length : Int) 0 63 63)) else (some (0, 0, false)))
theorem impl_KnownBits.mono_l : ∀ k, (∀ y0 y1 y2 y3 y4, LeO (impl_KnownBits.l0 k y0 y1 y2 y3 y4) (impl_KnownBits.l0 (k + 1) y0 y1 y2 y3 y4))
  | 0 => fun _ _ _ _ _ r h => by simp [impl_KnownBits.l0] at h
  | k + 1 => by
    have ih0 := impl_KnownBits.mono_l k
    · intro y0 y1 y2 y3 y4
      unfold impl_KnownBits.l0
      repeat' first
      | (with_reducible exact ih0 _ _ _ _ _)
      | (with_reducible exact impl_IsExpr.mono _ _)
      | (with_reducible exact impl_tableOf.mono _ _)
      | (with_reducible exact LeO.refl _)
      | (with_reducible exact LeO.none _)
      | (with_reducible refine LeO.ite ?_ ?_)
      | (with_reducible refine LeO.bind ?_ (fun _ => ?_))
      | exact ih0 _ _ _ _ _
      | exact impl_IsExpr.mono _ _
      | exact impl_tableOf.mono _ _
      | exact LeO.none _
      | refine LeO.ite ?_ ?_
      | refine LeO.bind ?_ (fun _ => ?_)
theorem impl_KnownBits.mono : ∀ a0 k, LeO (impl_KnownBits.f k a0) (impl_KnownBits.f (k + 1) a0) := by
  intro a0 k
  have ih0 := impl_KnownBits.mono_l k
  unfold impl_KnownBits.f
  repeat' first
      | (with_reducible exact ih0 _ _ _ _ _)
      | (with_reducible exact impl_IsExpr.mono _ _)
      | (with_reducible exact impl_tableOf.mono _ _)
      | (with_reducible exact LeO.refl _)
      | (with_reducible exact LeO.none _)
      | (with_reducible refine LeO.ite ?_ ?_)
      | (with_reducible refine LeO.bind ?_ (fun _ => ?_))
      | exact ih0 _ _ _ _ _
      | exact impl_IsExpr.mono _ _
      | exact impl_tableOf.mono _ _
      | exact LeO.none _
      | refine LeO.ite ?_ ?_
      | refine LeO.bind ?_ (fun _ => ?_)
set_option maxHeartbeats 8000000 in
set_option maxRecDepth 100000 in
theorem impl_KnownBits.calls (k : Nat) (A0 : Option Addr) (c0 : Nat) (l0 : List (S89)) (r1 : Int) (r2 : Int) (r3 : Bool) (w : World) (hr0 : Kd.C k89 w A0 l0.length l0) (hc0 : l0.length ≤ c0) (h : impl_KnownBits.f k l0 = some (r1, r2, r3)) :
    Calls Try.prog 58 #[.slice A0 l0.length c0] w fun e w' => e = .returned (.tuple #[.agg #[.int .i64 r1, .int .i64 r2], .bool r3]) ∧ Below w.heap.size w w' := by
  have hu62 := Try.underlying62
  have HR0 := Aside0.mk hr0
  have HC0 := Aside0.mk hc0
  clear hr0 hc0
  have HB := Aside0.mk (Below.refl w.heap.size w)
  have H : ((impl_IsExpr.f k l0).bind fun t1099 => (if t1099 = true then ((impl_tableOf.f k l0).bind fun t1101 => (impl_KnownBits.l0 k t1101 (t1101.length : Int) 0 63 63)) else (some (0, 0, false)))) = some (r1, r2, r3) := h
  clear h
  replace H := Option.bind_eq_some_iff.mp H
  obtain ⟨t1099, A20, H⟩ := H
  replace H : (if t1099 = true then ((impl_tableOf.f k l0).bind fun t1101 => (impl_KnownBits.l0 k t1101 (t1101.length : Int) 0 63 63)) else (some (0, 0, false))) = some (r1, r2, r3) := H
  have A2 := Aside0.mk A20
  clear A20
  by_cases c3 : t1099 = true
  · subst c3
    have H1 : ((impl_tableOf.f k l0).bind fun t1101 => (impl_KnownBits.l0 k t1101 (t1101.length : Int) 0 63 63)) = some (r1, r2, r3) := by rw [if_pos rfl] at H; exact H
    clear H
    have H := H1
    clear H1
    replace H := Option.bind_eq_some_iff.mp H
    obtain ⟨t1101, A40, H⟩ := H
    replace H : (impl_KnownBits.l0 k t1101 (t1101.length : Int) 0 63 63) = some (r1, r2, r3) := H
    have A4 := Aside0.mk A40
    clear A40
    have H' := Aside0.mk H
    clear H
    go_enter Try.func58, Try.ntmps58
    go_wp2_with (first | ((with_reducible refine gate_dst (N := 2) rfl ?_); refine box_event ?hg (N := 2) ?hd (cs := #[.int .i64 0, .int .i64 0]) (t := 62) ?hr ?_; (case hd => rfl); (case hg => rfl); (case hr => first | (go_simp; done) | (go_simp; rfl)); intro gb1098 hg w5 hbox hb; have n0_ := Aside0.mk (below_step (by repeat (first | (with_reducible first | exact HB.out | apply below_alloc | apply pw_below_drewN | apply below_drew1) | exact HB.out)) hb); have n1_ := Aside0.mk (hbox); have n2_ := Aside0.mk ((by rw [hg]; exact (below_size (by repeat (first | (with_reducible first | exact HB.out | apply below_alloc | apply pw_below_drewN | apply below_drew1) | exact HB.out))) : w.heap.size ≤ gb1098)); have n3_ := Aside0.mk ((by rw [hg]; exact (below_size (by repeat (first | (with_reducible first | exact HB.out | apply below_alloc | apply pw_below_drewN | apply below_drew1) | exact HB.out))) : w.heap.size ≤ gb1098)); clear HB; have HB := n0_; have BK1098 := n1_; have GW1098 := n2_; have GE1098 := n3_; clear n0_ n1_ n2_ n3_; clear hb hbox hg) | ((with_reducible refine gate_callee (f := 90) rfl ?_); refine goesL_ (some 8) rfl rfl Try.func90 (by kernel_rfl) rfl #[.slice A0 l0.length c0] rfl (by (try simp only [List.map_toArray, List.map_cons, List.map_nil]); first | done | rfl | (simp only [List.length_drop, List.length_take]; rfl)) ?_; (with_reducible refine (impl_IsExpr.calls k _ _ l0 true _ ?side1 ?side2 A2.out).mono ?_); (case side1 => repeat (first | exact (Kd.C_below HR0.out HB.out) | (with_reducible refine Kd.C_alloc ?_ _) | (with_reducible refine Kd.C_drewN ?_ _) | (with_reducible refine Kd.C_drew ?_))); (case side2 => exact HC0.out); rintro e w6 ⟨rfl, hb⟩; refine ⟨_, rfl, ?_⟩; have n0_ := Aside0.mk (blk_below (g := gb1098) (o := .cells #[.int .i64 0, .int .i64 0] 62 (0, 0)) (by (with_reducible repeat (first | refine blk_drewN ?_ _ | refine blk_drew ?_ | refine blk_alloc ?_ _)); exact BK1098.out) hb); have n1_ := Aside0.mk (below_step (by repeat (first | (with_reducible first | exact HB.out | apply below_alloc | apply pw_below_drewN | apply below_drew1 | refine below_set ?_ GE1098.out) | exact HB.out)) hb); clear BK1098; clear HB; have BK1098 := n0_; have HB := n1_; clear n0_ n1_; (try clear hb); (try clear hb2); (try clear hk); (try clear hi)) | ((with_reducible refine gate_dst (N := 4) rfl ?_); refine box_event ?hg (N := 4) ?hd (cs := #[.int .i64 0, .int .i64 0]) (t := 62) ?hr ?_; (case hd => rfl); (case hg => rfl); (case hr => first | (go_simp; done) | (go_simp; rfl)); intro gb1100 hg w7 hbox hb; have n0_ := Aside0.mk (blk_below (g := gb1098) (o := .cells #[.int .i64 0, .int .i64 0] 62 (0, 0)) (by (with_reducible repeat (first | refine blk_drewN ?_ _ | refine blk_drew ?_ | refine blk_alloc ?_ _)); exact BK1098.out) hb); have n1_ := Aside0.mk (below_step (by repeat (first | (with_reducible first | exact HB.out | apply below_alloc | apply pw_below_drewN | apply below_drew1 | refine below_set ?_ GE1098.out) | exact HB.out)) hb); have n2_ := Aside0.mk (hbox); have n3_ := Aside0.mk ((by rw [hg]; exact (below_size (by repeat (first | (with_reducible first | exact HB.out | apply below_alloc | apply pw_below_drewN | apply below_drew1 | refine below_set ?_ GE1098.out) | exact HB.out))) : w.heap.size ≤ gb1100)); have n4_ := Aside0.mk ((by rw [hg]; exact (below_size (by repeat (first | (with_reducible first | exact HB.out | apply below_alloc | apply pw_below_drewN | apply below_drew1 | refine below_set ?_ GE1098.out) | exact HB.out))) : w.heap.size ≤ gb1100)); have n5_ := Aside0.mk ((by rw [hg]; exact Nat.ne_of_lt (blk_lt (g := gb1098) (o := .cells #[.int .i64 0, .int .i64 0] 62 (0, 0)) (by (with_reducible repeat (first | refine blk_drewN ?_ _ | refine blk_drew ?_ | refine blk_alloc ?_ _)); exact BK1098.out)) : gb1098 ≠ gb1100)); have n6_ := Aside0.mk ((by rw [hg]; exact Nat.ne_of_gt (blk_lt (g := gb1098) (o := .cells #[.int .i64 0, .int .i64 0] 62 (0, 0)) (by (with_reducible repeat (first | refine blk_drewN ?_ _ | refine blk_drew ?_ | refine blk_alloc ?_ _)); exact BK1098.out)) : gb1100 ≠ gb1098)); clear BK1098; clear HB; have BK1098 := n0_; have HB := n1_; have BK1100 := n2_; have GW1100 := n3_; have GE1100 := n4_; have NB1098_1100 := n5_; have NB1100_1098 := n6_; clear n0_ n1_ n2_ n3_ n4_ n5_ n6_; clear hb hbox hg; have hnb8 := NB1100_1098.out; have hnc8 := NB1098_1100.out; have hcz9_0 : w7.cell? ⟨gb1100, 0, none⟩ = some (.int .i64 0) := (blk_cell BK1100.out 0).trans rfl; have hcz9_1 : w7.cell? ⟨gb1100, 1, none⟩ = some (.int .i64 0) := (blk_cell BK1100.out 1).trans rfl; have hfz9_0 := blk_frozen BK1100.out 0; have hfz9_1 := blk_frozen BK1100.out 1) | ((with_reducible refine gate_callee (f := 123) rfl ?_); refine goesL_ (some 13) rfl rfl Try.func123 (by kernel_rfl) rfl #[.slice A0 l0.length c0] rfl (by (try simp only [List.map_toArray, List.map_cons, List.map_nil]); first | done | rfl | (simp only [List.length_drop, List.length_take]; rfl)) ?_; (with_reducible refine (impl_tableOf.calls k _ _ l0 t1101 _ ?side1 ?side2 A4.out).mono ?_); (case side1 => exact Kd.C_below HR0.out (by repeat (first | (with_reducible first | exact HB.out | apply below_alloc | apply pw_below_drewN | apply below_drew1 | refine below_set ?_ GE1098.out | refine below_set ?_ GE1100.out) | exact HB.out))); (case side2 => exact HC0.out); rintro e w10 ⟨v1102, rfl, ho0, hb⟩; refine ⟨_, rfl, ?_⟩; have n0_ := Aside0.mk (Kd.R_lower ho0 (below_size (by repeat (first | (with_reducible first | exact HB.out | apply below_alloc | apply pw_below_drewN | apply below_drew1 | refine below_set ?_ GE1098.out | refine below_set ?_ GE1100.out) | exact HB.out)))); have n1_ := Aside0.mk (blk_below (g := gb1098) (o := .cells #[.int .i64 0, .int .i64 0] 62 (0, 0)) (by (with_reducible repeat (first | refine blk_drewN ?_ _ | refine blk_drew ?_ | refine blk_alloc ?_ _)); refine blk_far ?_ NB1098_1100.out _; (with_reducible repeat (first | refine blk_drewN ?_ _ | refine blk_drew ?_ | refine blk_alloc ?_ _)); refine blk_far ?_ NB1098_1100.out _; (with_reducible repeat (first | refine blk_drewN ?_ _ | refine blk_drew ?_ | refine blk_alloc ?_ _)); exact BK1098.out) hb); have n2_ := Aside0.mk (blk_below (g := gb1100) (o := .cells #[.int .i64 63, .int .i64 63] 62 (0, 0)) (by (with_reducible repeat (first | refine blk_drewN ?_ _ | refine blk_drew ?_ | refine blk_alloc ?_ _)); refine blk_put (cs := #[.int .i64 63, .int .i64 0]) ?_ 1 _ rfl; (with_reducible repeat (first | refine blk_drewN ?_ _ | refine blk_drew ?_ | refine blk_alloc ?_ _)); refine blk_put (cs := #[.int .i64 0, .int .i64 0]) ?_ 0 _ rfl; (with_reducible repeat (first | refine blk_drewN ?_ _ | refine blk_drew ?_ | refine blk_alloc ?_ _)); exact BK1100.out) hb); have n3_ := Aside0.mk (below_step (by repeat (first | (with_reducible first | exact HB.out | apply below_alloc | apply pw_below_drewN | apply below_drew1 | refine below_set ?_ GE1098.out | refine below_set ?_ GE1100.out) | exact HB.out)) hb); clear BK1098; clear BK1100; clear HB; have HO1103 := n0_; have BK1098 := n1_; have BK1100 := n2_; have HB := n3_; clear n0_ n1_ n2_ n3_; (try clear hb); (try clear hb2); (try clear hk); (try clear hi); (try clear ho0); obtain ⟨Ao11, co11, eo11⟩ := Kd.R_slice HO1103.out; subst eo11))
    go_loopg [15] k (fun kq v15 w' => ∃ (x15_1 : Int) (x1101000_1 : Int) (x1101001_1 : Int), v15 = .int .i64 x15_1 ∧ Aside0 (impl_KnownBits.l0 kq t1101 (t1101.length : Int) x15_1 x1101000_1 x1101001_1 = some (r1, r2, r3)) ∧ Aside0 (kq ≤ k) ∧ Aside0 (Kd.R (Kd.int .i64) 3 w' w.heap.size (fun _ => True) (.slice Ao11 t1101.length co11) t1101) ∧ Aside0 (w'.heap[gb1098]? = some (.cells #[.int .i64 0, .int .i64 0] 62 (0, 0))) ∧ Aside0 (w'.heap[gb1100]? = some (.cells #[.int .i64 x1101000_1, .int .i64 x1101001_1] 62 (0, 0))) ∧ Aside0 (Below w.heap.size w w'))
    case atStart => exact ⟨(0), (63), (63), (by first | rfl | (simp; done) | (simp [*]; done)), H', ⟨Nat.le_refl _⟩, ⟨by (with_reducible repeat (first | apply Kd.R_alloc | apply Kd.R_drewN | apply Kd.R_drew)); exact HO1103.out⟩, ⟨by (with_reducible repeat (first | refine blk_drewN ?_ _ | refine blk_drew ?_ | refine blk_alloc ?_ _)); exact BK1098.out⟩, ⟨by (with_reducible repeat (first | refine blk_drewN ?_ _ | refine blk_drew ?_ | refine blk_alloc ?_ _)); exact BK1100.out⟩, ⟨by repeat (first | (with_reducible first | exact HB.out | apply below_alloc | apply pw_below_drewN | apply below_drew1 | refine below_set ?_ GE1098.out | refine below_set ?_ GE1100.out) | exact HB.out)⟩⟩
    case round =>
      clear H'
      try clear c1
      try clear p2
      try clear c3
      try clear c5
      try clear c8
      try clear c9
      try clear hcz9_0
      try clear hcz9_1
      try clear hfz9_0
      try clear hfz9_1
      obtain ⟨x15_1, x1101000_1, x1101001_1, rfl, HA, HK1, HO_13, BK1098, BK1100, HB⟩ := hrel
      cases gk with
      | zero => exact absurd HA.out (by simp [impl_KnownBits.l0])
      | succ k1 =>
        have H := HA.out
        clear HA
        simp only [impl_KnownBits.l0] at H
        by_cases c12 : x15_1 < (t1101.length : Int)
        · rw [if_pos c12] at H
          have c12b0 : decide (x15_1 < (t1101.length : Int)) = true := decide_eq_true c12
          clear c12
          by_cases c13 : 0 ≤ x15_1
          · rw [if_pos c13] at H
            have c13b0 : decide (0 ≤ x15_1) = true := decide_eq_true c13
            clear c13
            by_cases c14 : x15_1 < (t1101.length : Int)
            · rw [if_pos c14] at H
              have c14b0 : decide (x15_1 < (t1101.length : Int)) = true := decide_eq_true c14
              clear c14
              have H' := Aside0.mk H
              clear H
              have p1104 : 0 ≤ (x15_1 : Int) := of_decide_eq_true (by first | (with_reducible assumption) | assumption)
              have q1104 : x15_1 < (t1101.length : Int) := of_decide_eq_true (by first | (with_reducible assumption) | assumption)
              obtain ⟨ad1104, e1104, hx1104_0⟩ := Kd.at_int (Kd.R_reads' HO_13.out).2.2 x15_1 p1104 q1104
              cases e1104
              replace p1104 := eq_true p1104
              replace q1104 := eq_true q1104
              have hnb15 := NB1100_1098.out
              have hnc15 := NB1098_1100.out
              have hcz16_0 : wr.cell? ⟨gb1100, 0, none⟩ = some (.int .i64 x1101000_1) := (blk_cell BK1100.out 0).trans rfl
              have hcz16_1 : wr.cell? ⟨gb1100, 1, none⟩ = some (.int .i64 x1101001_1) := (blk_cell BK1100.out 1).trans rfl
              have hfz16_0 := blk_frozen BK1100.out 0
              have hfz16_1 := blk_frozen BK1100.out 1
              go_wp2
              go_roundg k1
              case measure => have := HK1.out; omega
              case rel => exact ⟨(wrap64 (x15_1 + 1)), (Go.bits .andNot .i64 x1101000_1 (rd t1101 x15_1)), (Go.bits .and .i64 x1101001_1 (rd t1101 x15_1)), (by first | rfl | (simp; done) | (simp [*]; done)), H', ⟨by have := HK1.out; omega⟩, ⟨by (with_reducible repeat (first | apply Kd.R_alloc | apply Kd.R_drewN | apply Kd.R_drew)); exact Kd.R_mono (Kd.R_far (p := ⟨gb1100, 1, none⟩) (Kd.R_far (p := ⟨gb1100, 0, none⟩) (Kd.R_types HO_13.out BK1100.out (by decide)) (fun _ hk => hk.2) (.int .i64 (Go.bits .andNot .i64 x1101000_1 (rd t1101 x15_1)))) (fun _ hk => hk.2) (.int .i64 (Go.bits .and .i64 x1101001_1 (rd t1101 x15_1)))) (fun _ hk => trivial)⟩, ⟨by (with_reducible repeat (first | refine blk_drewN ?_ _ | refine blk_drew ?_ | refine blk_alloc ?_ _)); refine blk_far ?_ NB1098_1100.out _; (with_reducible repeat (first | refine blk_drewN ?_ _ | refine blk_drew ?_ | refine blk_alloc ?_ _)); refine blk_far ?_ NB1098_1100.out _; (with_reducible repeat (first | refine blk_drewN ?_ _ | refine blk_drew ?_ | refine blk_alloc ?_ _)); exact BK1098.out⟩, ⟨by (with_reducible repeat (first | refine blk_drewN ?_ _ | refine blk_drew ?_ | refine blk_alloc ?_ _)); refine blk_put (cs := #[.int .i64 (Go.bits .andNot .i64 x1101000_1 (rd t1101 x15_1)), .int .i64 x1101001_1]) ?_ 1 _ rfl; (with_reducible repeat (first | refine blk_drewN ?_ _ | refine blk_drew ?_ | refine blk_alloc ?_ _)); refine blk_put (cs := #[.int .i64 x1101000_1, .int .i64 x1101001_1]) ?_ 0 _ rfl; (with_reducible repeat (first | refine blk_drewN ?_ _ | refine blk_drew ?_ | refine blk_alloc ?_ _)); exact BK1100.out⟩, ⟨by repeat (first | (with_reducible first | exact HB.out | apply below_alloc | apply pw_below_drewN | apply below_drew1 | refine below_set ?_ GE1098.out | refine below_set ?_ GE1100.out) | exact HB.out)⟩⟩
            · rw [if_neg c14] at H
              exact absurd H (by simp)
          · rw [if_neg c13] at H
            exact absurd H (by simp)
        · rw [if_neg c12] at H
          have c12b0 : decide (x15_1 < (t1101.length : Int)) = false := decide_eq_false c12
          clear c12
          simp only [Option.some.injEq, Prod.mk.injEq] at H
          obtain ⟨rfl, rfl, rfl⟩ := H
          have hnb17 := NB1100_1098.out
          have hnc17 := NB1098_1100.out
          have hcz18_0 : wr.cell? ⟨gb1100, 0, none⟩ = some (.int .i64 x1101000_1) := (blk_cell BK1100.out 0).trans rfl
          have hcz18_1 : wr.cell? ⟨gb1100, 1, none⟩ = some (.int .i64 x1101001_1) := (blk_cell BK1100.out 1).trans rfl
          have hfz18_0 := blk_frozen BK1100.out 0
          have hfz18_1 := blk_frozen BK1100.out 1
          have hcz19_0 : wr.cell? ⟨gb1098, 0, none⟩ = some (.int .i64 0) := (blk_cell BK1098.out 0).trans rfl
          have hcz19_1 : wr.cell? ⟨gb1098, 1, none⟩ = some (.int .i64 0) := (blk_cell BK1098.out 1).trans rfl
          have hfz19_0 := blk_frozen BK1098.out 0
          have hfz19_1 := blk_frozen BK1098.out 1
          go_wp2
          refine bodyPost_ret (results_ct rfl _ _ gb1098 62 #[.int .i64 x1101000_1, .int .i64 x1101001_1] (0, 0) _ rfl (by (with_reducible repeat (first | refine blk_drewN ?_ _ | refine blk_drew ?_ | refine blk_alloc ?_ _)); refine blk_put (cs := #[.int .i64 x1101000_1, .int .i64 0]) ?_ 1 _ rfl; (with_reducible repeat (first | refine blk_drewN ?_ _ | refine blk_drew ?_ | refine blk_alloc ?_ _)); refine blk_put (cs := #[.int .i64 0, .int .i64 0]) ?_ 0 _ rfl; (with_reducible repeat (first | refine blk_drewN ?_ _ | refine blk_drew ?_ | refine blk_alloc ?_ _)); exact BK1098.out) Try.underlying62 rfl (by kernel_rfl)) rfl ?_
          exact ⟨by first | rfl | (simp [errW_none, errW_some] <;> rfl) | (simp [*, errW_none, errW_some] <;> rfl), by repeat (first | (with_reducible first | exact HB.out | apply below_alloc | apply pw_below_drewN | apply below_drew1 | refine below_set ?_ GE1098.out | refine below_set ?_ GE1100.out) | exact HB.out)⟩
  · replace c3 := Bool.eq_false_iff.mpr c3
    subst c3
    have H1 : (some (0, 0, false)) = some (r1, r2, r3) := by rw [if_neg (show ¬ (false = true) by decide)] at H; exact H
    clear H
    have H := H1
    clear H1
    simp only [Option.some.injEq, Prod.mk.injEq] at H
    obtain ⟨rfl, rfl, rfl⟩ := H
    go_enter Try.func58, Try.ntmps58
    go_wp2_with (first | ((with_reducible refine gate_dst (N := 2) rfl ?_); refine box_event ?hg (N := 2) ?hd (cs := #[.int .i64 0, .int .i64 0]) (t := 62) ?hr ?_; (case hd => rfl); (case hg => rfl); (case hr => first | (go_simp; done) | (go_simp; rfl)); intro gb1098 hg w20 hbox hb; have n0_ := Aside0.mk (below_step (by repeat (first | (with_reducible first | exact HB.out | apply below_alloc | apply pw_below_drewN | apply below_drew1) | exact HB.out)) hb); have n1_ := Aside0.mk (hbox); have n2_ := Aside0.mk ((by rw [hg]; exact (below_size (by repeat (first | (with_reducible first | exact HB.out | apply below_alloc | apply pw_below_drewN | apply below_drew1) | exact HB.out))) : w.heap.size ≤ gb1098)); have n3_ := Aside0.mk ((by rw [hg]; exact (below_size (by repeat (first | (with_reducible first | exact HB.out | apply below_alloc | apply pw_below_drewN | apply below_drew1) | exact HB.out))) : w.heap.size ≤ gb1098)); clear HB; have HB := n0_; have BK1098 := n1_; have GW1098 := n2_; have GE1098 := n3_; clear n0_ n1_ n2_ n3_; clear hb hbox hg) | ((with_reducible refine gate_callee (f := 90) rfl ?_); refine goesL_ (some 8) rfl rfl Try.func90 (by kernel_rfl) rfl #[.slice A0 l0.length c0] rfl (by (try simp only [List.map_toArray, List.map_cons, List.map_nil]); first | done | rfl | (simp only [List.length_drop, List.length_take]; rfl)) ?_; (with_reducible refine (impl_IsExpr.calls k _ _ l0 false _ ?side1 ?side2 A2.out).mono ?_); (case side1 => repeat (first | exact (Kd.C_below HR0.out HB.out) | (with_reducible refine Kd.C_alloc ?_ _) | (with_reducible refine Kd.C_drewN ?_ _) | (with_reducible refine Kd.C_drew ?_))); (case side2 => exact HC0.out); rintro e w21 ⟨rfl, hb⟩; refine ⟨_, rfl, ?_⟩; have n0_ := Aside0.mk (blk_below (g := gb1098) (o := .cells #[.int .i64 0, .int .i64 0] 62 (0, 0)) (by (with_reducible repeat (first | refine blk_drewN ?_ _ | refine blk_drew ?_ | refine blk_alloc ?_ _)); exact BK1098.out) hb); have n1_ := Aside0.mk (below_step (by repeat (first | (with_reducible first | exact HB.out | apply below_alloc | apply pw_below_drewN | apply below_drew1 | refine below_set ?_ GE1098.out) | exact HB.out)) hb); clear BK1098; clear HB; have BK1098 := n0_; have HB := n1_; clear n0_ n1_; (try clear hb); (try clear hb2); (try clear hk); (try clear hi); have hcz22_0 : w21.cell? ⟨gb1098, 0, none⟩ = some (.int .i64 0) := (blk_cell BK1098.out 0).trans rfl; have hcz22_1 : w21.cell? ⟨gb1098, 1, none⟩ = some (.int .i64 0) := (blk_cell BK1098.out 1).trans rfl; have hfz22_0 := blk_frozen BK1098.out 0; have hfz22_1 := blk_frozen BK1098.out 1))
    refine bodyPost_ret (results_ct rfl _ _ gb1098 62 #[.int .i64 0, .int .i64 0] (0, 0) _ rfl (by (with_reducible repeat (first | refine blk_drewN ?_ _ | refine blk_drew ?_ | refine blk_alloc ?_ _)); refine blk_put (cs := #[.int .i64 0, .int .i64 0]) ?_ 1 _ rfl; (with_reducible repeat (first | refine blk_drewN ?_ _ | refine blk_drew ?_ | refine blk_alloc ?_ _)); refine blk_put (cs := #[.int .i64 0, .int .i64 0]) ?_ 0 _ rfl; (with_reducible repeat (first | refine blk_drewN ?_ _ | refine blk_drew ?_ | refine blk_alloc ?_ _)); exact BK1098.out) Try.underlying62 rfl (by kernel_rfl)) rfl ?_
    exact ⟨by first | rfl | (simp [errW_none, errW_some] <;> rfl) | (simp [*, errW_none, errW_some] <;> rfl), by repeat (first | (with_reducible first | exact HB.out | apply below_alloc | apply pw_below_drewN | apply below_drew1 | refine below_set ?_ GE1098.out) | exact HB.out)⟩

/-! ### laws_eqKnown: function 59 -/
def laws_eqKnown.f (a0_0 : Int) (a0_1 : Int) (a1_0 : Int) (a1_1 : Int) : Option (Bool) := if a0_0 = a1_0 then (if a0_1 = a1_1 then (some true) else (some false)) else (some false)
set_option maxHeartbeats 8000000 in
set_option maxRecDepth 100000 in
theorem laws_eqKnown.calls (a0_0 : Int) (a0_1 : Int) (a1_0 : Int) (a1_1 : Int) (r : Bool) (w : World) (h : laws_eqKnown.f a0_0 a0_1 a1_0 a1_1 = some r) :
    Calls Try.prog 59 #[.agg #[.int .i64 a0_0, .int .i64 a0_1], .agg #[.int .i64 a1_0, .int .i64 a1_1]] w fun e w' => e = .returned (.bool r) ∧ Below w.heap.size w w' := by
  have hu62 := Try.underlying62
  have HB := Aside0.mk (Below.refl w.heap.size w)
  have H : (if a0_0 = a1_0 then (if a0_1 = a1_1 then (some true) else (some false)) else (some false)) = some r := h
  clear h
  by_cases c3 : a0_0 = a1_0
  · rw [if_pos c3] at H
    have c3b0 : (a0_0 == a1_0) = true := beq_iff_eq.mpr c3
    have c3b1 : (a0_0 != a1_0) = false := bne_eq_false_iff_eq.mpr c3
    clear c3
    by_cases c4 : a0_1 = a1_1
    · rw [if_pos c4] at H
      have c4b0 : (a0_1 == a1_1) = true := beq_iff_eq.mpr c4
      have c4b1 : (a0_1 != a1_1) = false := bne_eq_false_iff_eq.mpr c4
      clear c4
      obtain rfl := Option.some.inj H
      go_enter Try.func59, Try.ntmps59
      go_wp2_with (first | ((with_reducible refine gate_dst (N := 2) rfl ?_); refine box_event ?hg (N := 2) ?hd (cs := #[.int .i64 a0_0, .int .i64 a0_1]) (t := 62) ?hr ?_; (case hd => rfl); (case hg => rfl); (case hr => first | (go_simp; done) | (go_simp; rfl)); intro gb1105 hg w5 hbox hb; have n0_ := Aside0.mk (below_step (by repeat (first | (with_reducible first | exact HB.out | apply below_alloc | apply pw_below_drewN | apply below_drew1) | exact HB.out)) hb); have n1_ := Aside0.mk (hbox); have n2_ := Aside0.mk ((by rw [hg]; exact (below_size (by repeat (first | (with_reducible first | exact HB.out | apply below_alloc | apply pw_below_drewN | apply below_drew1) | exact HB.out))) : w.heap.size ≤ gb1105)); have n3_ := Aside0.mk ((by rw [hg]; exact (below_size (by repeat (first | (with_reducible first | exact HB.out | apply below_alloc | apply pw_below_drewN | apply below_drew1) | exact HB.out))) : w.heap.size ≤ gb1105)); clear HB; have HB := n0_; have BK1105 := n1_; have GW1105 := n2_; have GE1105 := n3_; clear n0_ n1_ n2_ n3_; clear hb hbox hg) | ((with_reducible refine gate_dst (N := 3) rfl ?_); refine box_event ?hg (N := 3) ?hd (cs := #[.int .i64 a1_0, .int .i64 a1_1]) (t := 62) ?hr ?_; (case hd => rfl); (case hg => rfl); (case hr => first | (go_simp; done) | (go_simp; rfl)); intro gb1106 hg w6 hbox hb; have n0_ := Aside0.mk (blk_below (g := gb1105) (o := .cells #[.int .i64 a0_0, .int .i64 a0_1] 62 (0, 0)) (by (with_reducible repeat (first | refine blk_drewN ?_ _ | refine blk_drew ?_ | refine blk_alloc ?_ _)); exact BK1105.out) hb); have n1_ := Aside0.mk (below_step (by repeat (first | (with_reducible first | exact HB.out | apply below_alloc | apply pw_below_drewN | apply below_drew1 | refine below_set ?_ GE1105.out) | exact HB.out)) hb); have n2_ := Aside0.mk (hbox); have n3_ := Aside0.mk ((by rw [hg]; exact (below_size (by repeat (first | (with_reducible first | exact HB.out | apply below_alloc | apply pw_below_drewN | apply below_drew1 | refine below_set ?_ GE1105.out) | exact HB.out))) : w.heap.size ≤ gb1106)); have n4_ := Aside0.mk ((by rw [hg]; exact (below_size (by repeat (first | (with_reducible first | exact HB.out | apply below_alloc | apply pw_below_drewN | apply below_drew1 | refine below_set ?_ GE1105.out) | exact HB.out))) : w.heap.size ≤ gb1106)); have n5_ := Aside0.mk ((by rw [hg]; exact Nat.ne_of_lt (blk_lt (g := gb1105) (o := .cells #[.int .i64 a0_0, .int .i64 a0_1] 62 (0, 0)) (by (with_reducible repeat (first | refine blk_drewN ?_ _ | refine blk_drew ?_ | refine blk_alloc ?_ _)); exact BK1105.out)) : gb1105 ≠ gb1106)); have n6_ := Aside0.mk ((by rw [hg]; exact Nat.ne_of_gt (blk_lt (g := gb1105) (o := .cells #[.int .i64 a0_0, .int .i64 a0_1] 62 (0, 0)) (by (with_reducible repeat (first | refine blk_drewN ?_ _ | refine blk_drew ?_ | refine blk_alloc ?_ _)); exact BK1105.out)) : gb1106 ≠ gb1105)); clear BK1105; clear HB; have BK1105 := n0_; have HB := n1_; have BK1106 := n2_; have GW1106 := n3_; have GE1106 := n4_; have NB1105_1106 := n5_; have NB1106_1105 := n6_; clear n0_ n1_ n2_ n3_ n4_ n5_ n6_; clear hb hbox hg; have hnb7 := NB1105_1106.out; have hnc7 := NB1106_1105.out; have hcz8_0 : w6.cell? ⟨gb1105, 0, none⟩ = some (.int .i64 a0_0) := (blk_cell BK1105.out 0).trans rfl; have hcz8_1 : w6.cell? ⟨gb1105, 1, none⟩ = some (.int .i64 a0_1) := (blk_cell BK1105.out 1).trans rfl; have hfz8_0 := blk_frozen BK1105.out 0; have hfz8_1 := blk_frozen BK1105.out 1; have hcz9_0 : w6.cell? ⟨gb1106, 0, none⟩ = some (.int .i64 a1_0) := (blk_cell BK1106.out 0).trans rfl; have hcz9_1 : w6.cell? ⟨gb1106, 1, none⟩ = some (.int .i64 a1_1) := (blk_cell BK1106.out 1).trans rfl; have hfz9_0 := blk_frozen BK1106.out 0; have hfz9_1 := blk_frozen BK1106.out 1))
      go_ret
      exact ⟨by first | rfl | (simp [errW_none, errW_some] <;> rfl) | (simp [*, errW_none, errW_some] <;> rfl), by repeat (first | (with_reducible first | exact HB.out | apply below_alloc | apply pw_below_drewN | apply below_drew1 | refine below_set ?_ GE1105.out | refine below_set ?_ GE1106.out) | exact HB.out)⟩
    · rw [if_neg c4] at H
      have c4b0 : (a0_1 == a1_1) = false := beq_eq_false_iff_ne.mpr c4
      have c4b1 : (a0_1 != a1_1) = true := bne_iff_ne.mpr c4
      obtain rfl := Option.some.inj H
      go_enter Try.func59, Try.ntmps59
      go_wp2_with (first | ((with_reducible refine gate_dst (N := 2) rfl ?_); refine box_event ?hg (N := 2) ?hd (cs := #[.int .i64 a0_0, .int .i64 a0_1]) (t := 62) ?hr ?_; (case hd => rfl); (case hg => rfl); (case hr => first | (go_simp; done) | (go_simp; rfl)); intro gb1105 hg w10 hbox hb; have n0_ := Aside0.mk (below_step (by repeat (first | (with_reducible first | exact HB.out | apply below_alloc | apply pw_below_drewN | apply below_drew1) | exact HB.out)) hb); have n1_ := Aside0.mk (hbox); have n2_ := Aside0.mk ((by rw [hg]; exact (below_size (by repeat (first | (with_reducible first | exact HB.out | apply below_alloc | apply pw_below_drewN | apply below_drew1) | exact HB.out))) : w.heap.size ≤ gb1105)); have n3_ := Aside0.mk ((by rw [hg]; exact (below_size (by repeat (first | (with_reducible first | exact HB.out | apply below_alloc | apply pw_below_drewN | apply below_drew1) | exact HB.out))) : w.heap.size ≤ gb1105)); clear HB; have HB := n0_; have BK1105 := n1_; have GW1105 := n2_; have GE1105 := n3_; clear n0_ n1_ n2_ n3_; clear hb hbox hg) | ((with_reducible refine gate_dst (N := 3) rfl ?_); refine box_event ?hg (N := 3) ?hd (cs := #[.int .i64 a1_0, .int .i64 a1_1]) (t := 62) ?hr ?_; (case hd => rfl); (case hg => rfl); (case hr => first | (go_simp; done) | (go_simp; rfl)); intro gb1106 hg w11 hbox hb; have n0_ := Aside0.mk (blk_below (g := gb1105) (o := .cells #[.int .i64 a0_0, .int .i64 a0_1] 62 (0, 0)) (by (with_reducible repeat (first | refine blk_drewN ?_ _ | refine blk_drew ?_ | refine blk_alloc ?_ _)); exact BK1105.out) hb); have n1_ := Aside0.mk (below_step (by repeat (first | (with_reducible first | exact HB.out | apply below_alloc | apply pw_below_drewN | apply below_drew1 | refine below_set ?_ GE1105.out) | exact HB.out)) hb); have n2_ := Aside0.mk (hbox); have n3_ := Aside0.mk ((by rw [hg]; exact (below_size (by repeat (first | (with_reducible first | exact HB.out | apply below_alloc | apply pw_below_drewN | apply below_drew1 | refine below_set ?_ GE1105.out) | exact HB.out))) : w.heap.size ≤ gb1106)); have n4_ := Aside0.mk ((by rw [hg]; exact (below_size (by repeat (first | (with_reducible first | exact HB.out | apply below_alloc | apply pw_below_drewN | apply below_drew1 | refine below_set ?_ GE1105.out) | exact HB.out))) : w.heap.size ≤ gb1106)); have n5_ := Aside0.mk ((by rw [hg]; exact Nat.ne_of_lt (blk_lt (g := gb1105) (o := .cells #[.int .i64 a0_0, .int .i64 a0_1] 62 (0, 0)) (by (with_reducible repeat (first | refine blk_drewN ?_ _ | refine blk_drew ?_ | refine blk_alloc ?_ _)); exact BK1105.out)) : gb1105 ≠ gb1106)); have n6_ := Aside0.mk ((by rw [hg]; exact Nat.ne_of_gt (blk_lt (g := gb1105) (o := .cells #[.int .i64 a0_0, .int .i64 a0_1] 62 (0, 0)) (by (with_reducible repeat (first | refine blk_drewN ?_ _ | refine blk_drew ?_ | refine blk_alloc ?_ _)); exact BK1105.out)) : gb1106 ≠ gb1105)); clear BK1105; clear HB; have BK1105 := n0_; have HB := n1_; have BK1106 := n2_; have GW1106 := n3_; have GE1106 := n4_; have NB1105_1106 := n5_; have NB1106_1105 := n6_; clear n0_ n1_ n2_ n3_ n4_ n5_ n6_; clear hb hbox hg; have hnb12 := NB1105_1106.out; have hnc12 := NB1106_1105.out; have hcz13_0 : w11.cell? ⟨gb1105, 0, none⟩ = some (.int .i64 a0_0) := (blk_cell BK1105.out 0).trans rfl; have hcz13_1 : w11.cell? ⟨gb1105, 1, none⟩ = some (.int .i64 a0_1) := (blk_cell BK1105.out 1).trans rfl; have hfz13_0 := blk_frozen BK1105.out 0; have hfz13_1 := blk_frozen BK1105.out 1; have hcz14_0 : w11.cell? ⟨gb1106, 0, none⟩ = some (.int .i64 a1_0) := (blk_cell BK1106.out 0).trans rfl; have hcz14_1 : w11.cell? ⟨gb1106, 1, none⟩ = some (.int .i64 a1_1) := (blk_cell BK1106.out 1).trans rfl; have hfz14_0 := blk_frozen BK1106.out 0; have hfz14_1 := blk_frozen BK1106.out 1))
      go_ret
      exact ⟨by first | rfl | (simp [errW_none, errW_some] <;> rfl) | (simp [*, errW_none, errW_some] <;> rfl), by repeat (first | (with_reducible first | exact HB.out | apply below_alloc | apply pw_below_drewN | apply below_drew1 | refine below_set ?_ GE1105.out | refine below_set ?_ GE1106.out) | exact HB.out)⟩
  · rw [if_neg c3] at H
    have c3b0 : (a0_0 == a1_0) = false := beq_eq_false_iff_ne.mpr c3
    have c3b1 : (a0_0 != a1_0) = true := bne_iff_ne.mpr c3
    obtain rfl := Option.some.inj H
    go_enter Try.func59, Try.ntmps59
    go_wp2_with (first | ((with_reducible refine gate_dst (N := 2) rfl ?_); refine box_event ?hg (N := 2) ?hd (cs := #[.int .i64 a0_0, .int .i64 a0_1]) (t := 62) ?hr ?_; (case hd => rfl); (case hg => rfl); (case hr => first | (go_simp; done) | (go_simp; rfl)); intro gb1105 hg w15 hbox hb; have n0_ := Aside0.mk (below_step (by repeat (first | (with_reducible first | exact HB.out | apply below_alloc | apply pw_below_drewN | apply below_drew1) | exact HB.out)) hb); have n1_ := Aside0.mk (hbox); have n2_ := Aside0.mk ((by rw [hg]; exact (below_size (by repeat (first | (with_reducible first | exact HB.out | apply below_alloc | apply pw_below_drewN | apply below_drew1) | exact HB.out))) : w.heap.size ≤ gb1105)); have n3_ := Aside0.mk ((by rw [hg]; exact (below_size (by repeat (first | (with_reducible first | exact HB.out | apply below_alloc | apply pw_below_drewN | apply below_drew1) | exact HB.out))) : w.heap.size ≤ gb1105)); clear HB; have HB := n0_; have BK1105 := n1_; have GW1105 := n2_; have GE1105 := n3_; clear n0_ n1_ n2_ n3_; clear hb hbox hg) | ((with_reducible refine gate_dst (N := 3) rfl ?_); refine box_event ?hg (N := 3) ?hd (cs := #[.int .i64 a1_0, .int .i64 a1_1]) (t := 62) ?hr ?_; (case hd => rfl); (case hg => rfl); (case hr => first | (go_simp; done) | (go_simp; rfl)); intro gb1106 hg w16 hbox hb; have n0_ := Aside0.mk (blk_below (g := gb1105) (o := .cells #[.int .i64 a0_0, .int .i64 a0_1] 62 (0, 0)) (by (with_reducible repeat (first | refine blk_drewN ?_ _ | refine blk_drew ?_ | refine blk_alloc ?_ _)); exact BK1105.out) hb); have n1_ := Aside0.mk (below_step (by repeat (first | (with_reducible first | exact HB.out | apply below_alloc | apply pw_below_drewN | apply below_drew1 | refine below_set ?_ GE1105.out) | exact HB.out)) hb); have n2_ := Aside0.mk (hbox); have n3_ := Aside0.mk ((by rw [hg]; exact (below_size (by repeat (first | (with_reducible first | exact HB.out | apply below_alloc | apply pw_below_drewN | apply below_drew1 | refine below_set ?_ GE1105.out) | exact HB.out))) : w.heap.size ≤ gb1106)); have n4_ := Aside0.mk ((by rw [hg]; exact (below_size (by repeat (first | (with_reducible first | exact HB.out | apply below_alloc | apply pw_below_drewN | apply below_drew1 | refine below_set ?_ GE1105.out) | exact HB.out))) : w.heap.size ≤ gb1106)); have n5_ := Aside0.mk ((by rw [hg]; exact Nat.ne_of_lt (blk_lt (g := gb1105) (o := .cells #[.int .i64 a0_0, .int .i64 a0_1] 62 (0, 0)) (by (with_reducible repeat (first | refine blk_drewN ?_ _ | refine blk_drew ?_ | refine blk_alloc ?_ _)); exact BK1105.out)) : gb1105 ≠ gb1106)); have n6_ := Aside0.mk ((by rw [hg]; exact Nat.ne_of_gt (blk_lt (g := gb1105) (o := .cells #[.int .i64 a0_0, .int .i64 a0_1] 62 (0, 0)) (by (with_reducible repeat (first | refine blk_drewN ?_ _ | refine blk_drew ?_ | refine blk_alloc ?_ _)); exact BK1105.out)) : gb1106 ≠ gb1105)); clear BK1105; clear HB; have BK1105 := n0_; have HB := n1_; have BK1106 := n2_; have GW1106 := n3_; have GE1106 := n4_; have NB1105_1106 := n5_; have NB1106_1105 := n6_; clear n0_ n1_ n2_ n3_ n4_ n5_ n6_; clear hb hbox hg; have hnb17 := NB1105_1106.out; have hnc17 := NB1106_1105.out; have hcz18_0 : w16.cell? ⟨gb1105, 0, none⟩ = some (.int .i64 a0_0) := (blk_cell BK1105.out 0).trans rfl; have hcz18_1 : w16.cell? ⟨gb1105, 1, none⟩ = some (.int .i64 a0_1) := (blk_cell BK1105.out 1).trans rfl; have hfz18_0 := blk_frozen BK1105.out 0; have hfz18_1 := blk_frozen BK1105.out 1; have hcz19_0 : w16.cell? ⟨gb1106, 0, none⟩ = some (.int .i64 a1_0) := (blk_cell BK1106.out 0).trans rfl; have hcz19_1 : w16.cell? ⟨gb1106, 1, none⟩ = some (.int .i64 a1_1) := (blk_cell BK1106.out 1).trans rfl; have hfz19_0 := blk_frozen BK1106.out 0; have hfz19_1 := blk_frozen BK1106.out 1))
    go_ret
    exact ⟨by first | rfl | (simp [errW_none, errW_some] <;> rfl) | (simp [*, errW_none, errW_some] <;> rfl), by repeat (first | (with_reducible first | exact HB.out | apply below_alloc | apply pw_below_drewN | apply below_drew1 | refine below_set ?_ GE1105.out | refine below_set ?_ GE1106.out) | exact HB.out)⟩

/-! ### laws_FnExactKnownBits: function 12 -/
def laws_FnExactKnownBits.j0 : Nat → List (S87) → List (S89) → Bool → Option (Bool)
  | 0, _, _, _ => none
  | k + 1, x0, x6, x35 => if x35 = true then (some false) else ((laws_toNodeS.f k x0).bind fun t1123 => ((laws_eqNodeS.f k x6 t1123).bind fun t1126 => (if t1126 = true then (some true) else (some false))))
def laws_FnExactKnownBits.f (k : Nat) (l0 : List (S87)) : Option (Bool) := (laws_szNodeS.f k l0 1048576).bind fun t1107 => (if t1107 < 0 then (some true) else ((laws_toNodeS.f k l0).bind fun t1108 => ((spec_KnownBits.f k t1108).bind fun bt1111 => ((laws_toNodeS.f k l0).bind fun t1115 => ((impl_KnownBits.f k t1115).bind fun bt1118 => ((laws_eqKnown.f bt1118.1 bt1118.2.1 bt1111.1 bt1111.2.1).bind fun t1122 => (if t1122 = true then (laws_FnExactKnownBits.j0 k l0 t1115 (bt1118.2.2 != bt1111.2.2)) else (laws_FnExactKnownBits.j0 k l0 t1115 true))))))))
theorem laws_FnExactKnownBits.mono_l : ∀ k, (∀ y0 y1 y2, LeO (laws_FnExactKnownBits.j0 k y0 y1 y2) (laws_FnExactKnownBits.j0 (k + 1) y0 y1 y2))
  | 0 => fun _ _ _ r h => by simp [laws_FnExactKnownBits.j0] at h
  | k + 1 => by
    have ih0 := laws_FnExactKnownBits.mono_l k
    · intro y0 y1 y2
      unfold laws_FnExactKnownBits.j0
      repeat' first
      | (with_reducible exact ih0 _ _ _)
      | (with_reducible exact impl_KnownBits.mono _ _)
      | (with_reducible exact laws_eqNodeS.mono _ _ _)
      | (with_reducible exact laws_szNodeS.mono _ _ _)
      | (with_reducible exact laws_toNodeS.mono _ _)
      | (with_reducible exact spec_KnownBits.mono _ _)
      | (with_reducible exact LeO.refl _)
      | (with_reducible exact LeO.none _)
      | (with_reducible refine LeO.ite ?_ ?_)
      | (with_reducible refine LeO.bind ?_ (fun _ => ?_))
      | exact ih0 _ _ _
      | exact impl_KnownBits.mono _ _
      | exact laws_eqNodeS.mono _ _ _
      | exact laws_szNodeS.mono _ _ _
      | exact laws_toNodeS.mono _ _
      | exact spec_KnownBits.mono _ _
      | exact LeO.none _
      | refine LeO.ite ?_ ?_
      | refine LeO.bind ?_ (fun _ => ?_)
theorem laws_FnExactKnownBits.mono : ∀ a0 k, LeO (laws_FnExactKnownBits.f k a0) (laws_FnExactKnownBits.f (k + 1) a0) := by
  intro a0 k
  have ih0 := laws_FnExactKnownBits.mono_l k
  unfold laws_FnExactKnownBits.f
  repeat' first
      | (with_reducible exact ih0 _ _ _)
      | (with_reducible exact impl_KnownBits.mono _ _)
      | (with_reducible exact laws_eqNodeS.mono _ _ _)
      | (with_reducible exact laws_szNodeS.mono _ _ _)
      | (with_reducible exact laws_toNodeS.mono _ _)
      | (with_reducible exact spec_KnownBits.mono _ _)
      | (with_reducible exact LeO.refl _)
      | (with_reducible exact LeO.none _)
      | (with_reducible refine LeO.ite ?_ ?_)
      | (with_reducible refine LeO.bind ?_ (fun _ => ?_))
      | exact ih0 _ _ _
      | exact impl_KnownBits.mono _ _
      | exact laws_eqNodeS.mono _ _ _
      | exact laws_szNodeS.mono _ _ _
      | exact laws_toNodeS.mono _ _
      | exact spec_KnownBits.mono _ _
      | exact LeO.none _
      | refine LeO.ite ?_ ?_
      | refine LeO.bind ?_ (fun _ => ?_)
set_option maxHeartbeats 8000000 in
set_option maxRecDepth 100000 in
theorem laws_FnExactKnownBits.calls (k : Nat) (A0 : Option Addr) (c0 : Nat) (l0 : List (S87)) (r : Bool) (w : World) (hr0 : Kd.C k87 w A0 l0.length l0) (hc0 : l0.length ≤ c0) (h : laws_FnExactKnownBits.f k l0 = some r) (hr : r = true) :
    Calls Try.prog 12 #[.slice A0 l0.length c0] w fun e w' => e = .returned (.bool r) ∧ Below w.heap.size w w' := by
  have hu62 := Try.underlying62
  have HR0 := Aside0.mk hr0
  have HC0 := Aside0.mk hc0
  clear hr0 hc0
  have HB := Aside0.mk (Below.refl w.heap.size w)
  have H : ((laws_szNodeS.f k l0 1048576).bind fun t1107 => (if t1107 < 0 then (some true) else ((laws_toNodeS.f k l0).bind fun t1108 => ((spec_KnownBits.f k t1108).bind fun bt1111 => ((laws_toNodeS.f k l0).bind fun t1115 => ((impl_KnownBits.f k t1115).bind fun bt1118 => ((laws_eqKnown.f bt1118.1 bt1118.2.1 bt1111.1 bt1111.2.1).bind fun t1122 => (if t1122 = true then (laws_FnExactKnownBits.j0 k l0 t1115 (bt1118.2.2 != bt1111.2.2)) else (laws_FnExactKnownBits.j0 k l0 t1115 true))))))))) = some r := h
  clear h
  replace H := Option.bind_eq_some_iff.mp H
  obtain ⟨t1107, A20, H⟩ := H
  replace H : (if t1107 < 0 then (some true) else ((laws_toNodeS.f k l0).bind fun t1108 => ((spec_KnownBits.f k t1108).bind fun bt1111 => ((laws_toNodeS.f k l0).bind fun t1115 => ((impl_KnownBits.f k t1115).bind fun bt1118 => ((laws_eqKnown.f bt1118.1 bt1118.2.1 bt1111.1 bt1111.2.1).bind fun t1122 => (if t1122 = true then (laws_FnExactKnownBits.j0 k l0 t1115 (bt1118.2.2 != bt1111.2.2)) else (laws_FnExactKnownBits.j0 k l0 t1115 true)))))))) = some r := H
  have A2 := Aside0.mk A20
  clear A20
  by_cases c3 : t1107 < 0
  · rw [if_pos c3] at H
    have c3b0 : decide (t1107 < 0) = true := decide_eq_true c3
    clear c3
    obtain rfl := Option.some.inj H
    go_enter Try.func12, Try.ntmps12
    go_wp2_with (first | ((with_reducible refine gate_callee (f := 24) rfl ?_); refine goesL_ (some 11) rfl rfl Try.func24 (by kernel_rfl) rfl #[.slice A0 l0.length c0, .int .i64 1048576] rfl (by (try simp only [List.map_toArray, List.map_cons, List.map_nil]); first | done | rfl | (simp only [List.length_drop, List.length_take]; rfl)) ?_; (with_reducible refine (laws_szNodeS.calls k _ _ l0 1048576 t1107 _ ?side1 ?side2 A2.out).mono ?_); (case side1 => repeat (first | exact HR0.out | (with_reducible refine Kd.C_alloc ?_ _) | (with_reducible refine Kd.C_drewN ?_ _) | (with_reducible refine Kd.C_drew ?_))); (case side2 => exact HC0.out); rintro e w4 ⟨rfl, hb⟩; refine ⟨_, rfl, ?_⟩; have n0_ := Aside0.mk (below_step (by repeat (first | (with_reducible first | exact HB.out | apply below_alloc | apply pw_below_drewN | apply below_drew1) | exact HB.out)) hb); clear HB; have HB := n0_; clear n0_; (try clear hb); (try clear hb2); (try clear hk); (try clear hi)))
    go_ret
    exact ⟨by first | rfl | (simp [errW_none, errW_some] <;> rfl) | (simp [*, errW_none, errW_some] <;> rfl), by repeat (first | (with_reducible first | exact HB.out | apply below_alloc | apply pw_below_drewN | apply below_drew1) | exact HB.out)⟩
  · rw [if_neg c3] at H
    have c3b0 : decide (t1107 < 0) = false := decide_eq_false c3
    clear c3
    replace H := Option.bind_eq_some_iff.mp H
    obtain ⟨t1108, A50, H⟩ := H
    replace H : ((spec_KnownBits.f k t1108).bind fun bt1111 => ((laws_toNodeS.f k l0).bind fun t1115 => ((impl_KnownBits.f k t1115).bind fun bt1118 => ((laws_eqKnown.f bt1118.1 bt1118.2.1 bt1111.1 bt1111.2.1).bind fun t1122 => (if t1122 = true then (laws_FnExactKnownBits.j0 k l0 t1115 (bt1118.2.2 != bt1111.2.2)) else (laws_FnExactKnownBits.j0 k l0 t1115 true)))))) = some r := H
    have A5 := Aside0.mk A50
    clear A50
    replace H := Option.bind_eq_some_iff.mp H
    obtain ⟨⟨t1111, t1112, t1113⟩, A60, H⟩ := H
    replace H : ((laws_toNodeS.f k l0).bind fun t1115 => ((impl_KnownBits.f k t1115).bind fun bt1118 => ((laws_eqKnown.f bt1118.1 bt1118.2.1 t1111 t1112).bind fun t1122 => (if t1122 = true then (laws_FnExactKnownBits.j0 k l0 t1115 (bt1118.2.2 != t1113)) else (laws_FnExactKnownBits.j0 k l0 t1115 true))))) = some r := H
    have A6 := Aside0.mk A60
    clear A60
    replace H := Option.bind_eq_some_iff.mp H
    obtain ⟨t1115, A70, H⟩ := H
    replace H : ((impl_KnownBits.f k t1115).bind fun bt1118 => ((laws_eqKnown.f bt1118.1 bt1118.2.1 t1111 t1112).bind fun t1122 => (if t1122 = true then (laws_FnExactKnownBits.j0 k l0 t1115 (bt1118.2.2 != t1113)) else (laws_FnExactKnownBits.j0 k l0 t1115 true)))) = some r := H
    have A7 := Aside0.mk A70
    clear A70
    replace H := Option.bind_eq_some_iff.mp H
    obtain ⟨⟨t1118, t1119, t1120⟩, A80, H⟩ := H
    replace H : ((laws_eqKnown.f t1118 t1119 t1111 t1112).bind fun t1122 => (if t1122 = true then (laws_FnExactKnownBits.j0 k l0 t1115 (t1120 != t1113)) else (laws_FnExactKnownBits.j0 k l0 t1115 true))) = some r := H
    have A8 := Aside0.mk A80
    clear A80
    have HC9 := Aside0.mk H
    clear H
    go_enter Try.func12, Try.ntmps12
    go_upto_region 8 with (first | ((with_reducible refine gate_callee (f := 24) rfl ?_); refine goesL_ (some 11) rfl rfl Try.func24 (by kernel_rfl) rfl #[.slice A0 l0.length c0, .int .i64 1048576] rfl (by (try simp only [List.map_toArray, List.map_cons, List.map_nil]); first | done | rfl | (simp only [List.length_drop, List.length_take]; rfl)) ?_; (with_reducible refine (laws_szNodeS.calls k _ _ l0 1048576 t1107 _ ?side1 ?side2 A2.out).mono ?_); (case side1 => repeat (first | exact HR0.out | (with_reducible refine Kd.C_alloc ?_ _) | (with_reducible refine Kd.C_drewN ?_ _) | (with_reducible refine Kd.C_drew ?_))); (case side2 => exact HC0.out); rintro e w10 ⟨rfl, hb⟩; refine ⟨_, rfl, ?_⟩; have n0_ := Aside0.mk (below_step (by repeat (first | (with_reducible first | exact HB.out | apply below_alloc | apply pw_below_drewN | apply below_drew1) | exact HB.out)) hb); clear HB; have HB := n0_; clear n0_; (try clear hb); (try clear hb2); (try clear hk); (try clear hi)) | ((with_reducible refine gate_callee (f := 26) rfl ?_); refine goesL_ (some 16) rfl rfl Try.func26 (by kernel_rfl) rfl #[.slice A0 l0.length c0] rfl (by (try simp only [List.map_toArray, List.map_cons, List.map_nil]); first | done | rfl | (simp only [List.length_drop, List.length_take]; rfl)) ?_; (with_reducible refine (laws_toNodeS.calls k _ _ l0 t1108 _ ?side1 ?side2 A5.out).mono ?_); (case side1 => repeat (first | exact (Kd.C_below HR0.out HB.out) | (with_reducible refine Kd.C_alloc ?_ _) | (with_reducible refine Kd.C_drewN ?_ _) | (with_reducible refine Kd.C_drew ?_))); (case side2 => exact HC0.out); rintro e w11 ⟨v1109, rfl, ho0, hb⟩; refine ⟨_, rfl, ?_⟩; have n0_ := Aside0.mk (Kd.R_lower ho0 (below_size (by repeat (first | (with_reducible first | exact HB.out | apply below_alloc | apply pw_below_drewN | apply below_drew1) | exact HB.out)))); have n1_ := Aside0.mk (below_step (by repeat (first | (with_reducible first | exact HB.out | apply below_alloc | apply pw_below_drewN | apply below_drew1) | exact HB.out)) hb); clear HB; have HO1110 := n0_; have HB := n1_; clear n0_ n1_; (try clear hb); (try clear hb2); (try clear hk); (try clear hi); (try clear ho0); obtain ⟨Ao12, co12, eo12⟩ := Kd.R_slice HO1110.out; subst eo12) | ((with_reducible refine gate_callee (f := 57) rfl ?_); refine goesL_ (some 17) rfl rfl Try.func57 (by kernel_rfl) rfl #[.slice Ao12 t1108.length co12] rfl (by (try simp only [List.map_toArray, List.map_cons, List.map_nil]); first | done | rfl | (simp only [List.length_drop, List.length_take]; rfl)) ?_; (with_reducible refine (spec_KnownBits.calls k _ _ t1108 t1111 t1112 t1113 _ ?side1 ?side2 A6.out).mono ?_); (case side1 => repeat (first | exact (Kd.R_reads' HO1110.out).2.2 | (with_reducible refine Kd.C_alloc ?_ _) | (with_reducible refine Kd.C_drewN ?_ _) | (with_reducible refine Kd.C_drew ?_))); (case side2 => exact (Kd.R_reads' HO1110.out).2.1); rintro e w13 ⟨rfl, hb⟩; refine ⟨_, rfl, ?_⟩; have n0_ := Aside0.mk (Kd.R_below (by (with_reducible repeat (first | apply Kd.R_alloc | apply Kd.R_drewN | apply Kd.R_drew)); exact HO1110.out) hb); have n1_ := Aside0.mk (below_step (by repeat (first | (with_reducible first | exact HB.out | apply below_alloc | apply pw_below_drewN | apply below_drew1) | exact HB.out)) hb); clear HO1110; clear HB; have HO1110 := n0_; have HB := n1_; clear n0_ n1_; (try clear hb); (try clear hb2); (try clear hk); (try clear hi)) | ((with_reducible refine gate_dst (N := 4) rfl ?_); refine box_event ?hg (N := 4) ?hd (cs := #[.int .i64 0, .int .i64 0]) (t := 62) ?hr ?_; (case hd => rfl); (case hg => rfl); (case hr => first | (go_simp; done) | (go_simp; rfl)); intro gb1114 hg w14 hbox hb; have n0_ := Aside0.mk (Kd.R_below (by (with_reducible repeat (first | apply Kd.R_alloc | apply Kd.R_drewN | apply Kd.R_drew)); exact HO1110.out) hb); have n1_ := Aside0.mk (below_step (by repeat (first | (with_reducible first | exact HB.out | apply below_alloc | apply pw_below_drewN | apply below_drew1) | exact HB.out)) hb); have n2_ := Aside0.mk (hbox); have n3_ := Aside0.mk ((by rw [hg]; exact (below_size (by repeat (first | (with_reducible first | exact HB.out | apply below_alloc | apply pw_below_drewN | apply below_drew1) | exact HB.out))) : w.heap.size ≤ gb1114)); have n4_ := Aside0.mk ((by rw [hg]; exact (below_size (by repeat (first | (with_reducible first | exact HB.out | apply below_alloc | apply pw_below_drewN | apply below_drew1) | exact HB.out))) : w.heap.size ≤ gb1114)); clear HO1110; clear HB; have HO1110 := n0_; have HB := n1_; have BK1114 := n2_; have GW1114 := n3_; have GE1114 := n4_; clear n0_ n1_ n2_ n3_ n4_; clear hb hbox hg; have hcz15_0 : w14.cell? ⟨gb1114, 0, none⟩ = some (.int .i64 0) := (blk_cell BK1114.out 0).trans rfl; have hcz15_1 : w14.cell? ⟨gb1114, 1, none⟩ = some (.int .i64 0) := (blk_cell BK1114.out 1).trans rfl; have hfz15_0 := blk_frozen BK1114.out 0; have hfz15_1 := blk_frozen BK1114.out 1) | ((with_reducible refine gate_callee (f := 26) rfl ?_); refine goesL_ (some 21) rfl rfl Try.func26 (by kernel_rfl) rfl #[.slice A0 l0.length c0] rfl (by (try simp only [List.map_toArray, List.map_cons, List.map_nil]); first | done | rfl | (simp only [List.length_drop, List.length_take]; rfl)) ?_; (with_reducible refine (laws_toNodeS.calls k _ _ l0 t1115 _ ?side1 ?side2 A7.out).mono ?_); (case side1 => exact Kd.C_below HR0.out (by repeat (first | (with_reducible first | exact HB.out | apply below_alloc | apply pw_below_drewN | apply below_drew1 | refine below_set ?_ GE1114.out) | exact HB.out))); (case side2 => exact HC0.out); rintro e w16 ⟨v1116, rfl, ho0, hb⟩; refine ⟨_, rfl, ?_⟩; have n0_ := Aside0.mk (Kd.R_elder' (by (with_reducible repeat (first | apply Kd.R_alloc | apply Kd.R_drewN | apply Kd.R_drew)); exact (Kd.R_mono (Kd.R_far (p := ⟨gb1114, 1, none⟩) (Kd.R_far (p := ⟨gb1114, 0, none⟩) (Kd.R_types HO1110.out BK1114.out (by decide)) (fun _ hk => hk.2) (.int .i64 t1111)) (fun _ hk => hk.2) (.int .i64 t1112)) (fun _ h_ => h_.1))) (Kd.R_base ho0) hb); have n1_ := Aside0.mk (Kd.R_lower (Kd.R_new' ho0 (Kd.R_lt (by (with_reducible repeat (first | apply Kd.R_alloc | apply Kd.R_drewN | apply Kd.R_drew)); exact (Kd.R_mono (Kd.R_far (p := ⟨gb1114, 1, none⟩) (Kd.R_far (p := ⟨gb1114, 0, none⟩) (Kd.R_types HO1110.out BK1114.out (by decide)) (fun _ hk => hk.2) (.int .i64 t1111)) (fun _ hk => hk.2) (.int .i64 t1112)) (fun _ h_ => h_.1))))) (below_size (by repeat (first | (with_reducible first | exact HB.out | apply below_alloc | apply pw_below_drewN | apply below_drew1 | refine below_set ?_ GE1114.out) | exact HB.out)))); have n2_ := Aside0.mk (blk_below (g := gb1114) (o := .cells #[.int .i64 t1111, .int .i64 t1112] 62 (0, 0)) (by (with_reducible repeat (first | refine blk_drewN ?_ _ | refine blk_drew ?_ | refine blk_alloc ?_ _)); refine blk_put (cs := #[.int .i64 t1111, .int .i64 0]) ?_ 1 _ rfl; (with_reducible repeat (first | refine blk_drewN ?_ _ | refine blk_drew ?_ | refine blk_alloc ?_ _)); refine blk_put (cs := #[.int .i64 0, .int .i64 0]) ?_ 0 _ rfl; (with_reducible repeat (first | refine blk_drewN ?_ _ | refine blk_drew ?_ | refine blk_alloc ?_ _)); exact BK1114.out) hb); have n3_ := Aside0.mk (below_step (by repeat (first | (with_reducible first | exact HB.out | apply below_alloc | apply pw_below_drewN | apply below_drew1 | refine below_set ?_ GE1114.out) | exact HB.out)) hb); clear HO1110; clear BK1114; clear HB; have HO1110 := n0_; have HO1117 := n1_; have BK1114 := n2_; have HB := n3_; clear n0_ n1_ n2_ n3_; (try clear hb); (try clear hb2); (try clear hk); (try clear hi); (try clear ho0); obtain ⟨Ao17, co17, eo17⟩ := Kd.R_slice HO1117.out; subst eo17) | ((with_reducible refine gate_callee (f := 58) rfl ?_); refine goesL_ (some 24) rfl rfl Try.func58 (by kernel_rfl) rfl #[.slice Ao17 t1115.length co17] rfl (by (try simp only [List.map_toArray, List.map_cons, List.map_nil]); first | done | rfl | (simp only [List.length_drop, List.length_take]; rfl)) ?_; (with_reducible refine (impl_KnownBits.calls k _ _ t1115 t1118 t1119 t1120 _ ?side1 ?side2 A8.out).mono ?_); (case side1 => repeat (first | exact (Kd.R_reads' HO1117.out).2.2 | (with_reducible refine Kd.C_alloc ?_ _) | (with_reducible refine Kd.C_drewN ?_ _) | (with_reducible refine Kd.C_drew ?_))); (case side2 => exact (Kd.R_reads' HO1117.out).2.1); rintro e w18 ⟨rfl, hb⟩; refine ⟨_, rfl, ?_⟩; have n0_ := Aside0.mk (Kd.R_below (by (with_reducible repeat (first | apply Kd.R_alloc | apply Kd.R_drewN | apply Kd.R_drew)); exact HO1110.out) hb); have n1_ := Aside0.mk (Kd.R_below (by (with_reducible repeat (first | apply Kd.R_alloc | apply Kd.R_drewN | apply Kd.R_drew)); exact HO1117.out) hb); have n2_ := Aside0.mk (blk_below (g := gb1114) (o := .cells #[.int .i64 t1111, .int .i64 t1112] 62 (0, 0)) (by (with_reducible repeat (first | refine blk_drewN ?_ _ | refine blk_drew ?_ | refine blk_alloc ?_ _)); exact BK1114.out) hb); have n3_ := Aside0.mk (below_step (by repeat (first | (with_reducible first | exact HB.out | apply below_alloc | apply pw_below_drewN | apply below_drew1 | refine below_set ?_ GE1114.out) | exact HB.out)) hb); clear HO1110; clear HO1117; clear BK1114; clear HB; have HO1110 := n0_; have HO1117 := n1_; have BK1114 := n2_; have HB := n3_; clear n0_ n1_ n2_ n3_; (try clear hb); (try clear hb2); (try clear hk); (try clear hi)) | ((with_reducible refine gate_dst (N := 7) rfl ?_); refine box_event ?hg (N := 7) ?hd (cs := #[.int .i64 0, .int .i64 0]) (t := 62) ?hr ?_; (case hd => rfl); (case hg => rfl); (case hr => first | (go_simp; done) | (go_simp; rfl)); intro gb1121 hg w19 hbox hb; have n0_ := Aside0.mk (Kd.R_below (by (with_reducible repeat (first | apply Kd.R_alloc | apply Kd.R_drewN | apply Kd.R_drew)); exact HO1110.out) hb); have n1_ := Aside0.mk (Kd.R_below (by (with_reducible repeat (first | apply Kd.R_alloc | apply Kd.R_drewN | apply Kd.R_drew)); exact HO1117.out) hb); have n2_ := Aside0.mk (blk_below (g := gb1114) (o := .cells #[.int .i64 t1111, .int .i64 t1112] 62 (0, 0)) (by (with_reducible repeat (first | refine blk_drewN ?_ _ | refine blk_drew ?_ | refine blk_alloc ?_ _)); exact BK1114.out) hb); have n3_ := Aside0.mk (below_step (by repeat (first | (with_reducible first | exact HB.out | apply below_alloc | apply pw_below_drewN | apply below_drew1 | refine below_set ?_ GE1114.out) | exact HB.out)) hb); have n4_ := Aside0.mk (hbox); have n5_ := Aside0.mk ((by rw [hg]; exact (below_size (by repeat (first | (with_reducible first | exact HB.out | apply below_alloc | apply pw_below_drewN | apply below_drew1 | refine below_set ?_ GE1114.out) | exact HB.out))) : w.heap.size ≤ gb1121)); have n6_ := Aside0.mk ((by rw [hg]; exact (below_size (by repeat (first | (with_reducible first | exact HB.out | apply below_alloc | apply pw_below_drewN | apply below_drew1 | refine below_set ?_ GE1114.out) | exact HB.out))) : w.heap.size ≤ gb1121)); have n7_ := Aside0.mk ((by rw [hg]; exact Nat.ne_of_lt (blk_lt (g := gb1114) (o := .cells #[.int .i64 t1111, .int .i64 t1112] 62 (0, 0)) (by (with_reducible repeat (first | refine blk_drewN ?_ _ | refine blk_drew ?_ | refine blk_alloc ?_ _)); exact BK1114.out)) : gb1114 ≠ gb1121)); have n8_ := Aside0.mk ((by rw [hg]; exact Nat.ne_of_gt (blk_lt (g := gb1114) (o := .cells #[.int .i64 t1111, .int .i64 t1112] 62 (0, 0)) (by (with_reducible repeat (first | refine blk_drewN ?_ _ | refine blk_drew ?_ | refine blk_alloc ?_ _)); exact BK1114.out)) : gb1121 ≠ gb1114)); clear HO1110; clear HO1117; clear BK1114; clear HB; have HO1110 := n0_; have HO1117 := n1_; have BK1114 := n2_; have HB := n3_; have BK1121 := n4_; have GW1121 := n5_; have GE1121 := n6_; have NB1114_1121 := n7_; have NB1121_1114 := n8_; clear n0_ n1_ n2_ n3_ n4_ n5_ n6_ n7_ n8_; clear hb hbox hg; have hnb20 := NB1121_1114.out; have hnc20 := NB1114_1121.out; have hcz21_0 : w19.cell? ⟨gb1121, 0, none⟩ = some (.int .i64 0) := (blk_cell BK1121.out 0).trans rfl; have hcz21_1 : w19.cell? ⟨gb1121, 1, none⟩ = some (.int .i64 0) := (blk_cell BK1121.out 1).trans rfl; have hfz21_0 := blk_frozen BK1121.out 0; have hfz21_1 := blk_frozen BK1121.out 1))
    (try simp only [Act.put, List.setIfInBounds_toArray, List.set_cons_zero, List.set_cons_succ])
    go_cut [35] (fun v35 wc => ∃ (kq : Nat) (x35_8 : Bool), v35 = .bool x35_8 ∧ Aside0 (laws_FnExactKnownBits.j0 kq l0 t1115 x35_8 = some r) ∧ Aside0 (kq ≤ k) ∧ Aside0 (Kd.R k89 89 wc w.heap.size (fun _ => True) (.slice Ao17 t1115.length co17) t1115) ∧ Aside0 (wc.heap[gb1114]? = some (.cells #[.int .i64 t1111, .int .i64 t1112] 62 (0, 0))) ∧ Aside0 (wc.heap[gb1121]? = some (.cells #[.int .i64 t1118, .int .i64 t1119] 62 (0, 0))) ∧ Aside0 (Below w.heap.size w wc))
    case first =>
      have H := HC9.out
      clear HC9
      replace H := Option.bind_eq_some_iff.mp H
      obtain ⟨t1122, A220, H⟩ := H
      replace H : (if t1122 = true then (laws_FnExactKnownBits.j0 k l0 t1115 (t1120 != t1113)) else (laws_FnExactKnownBits.j0 k l0 t1115 true)) = some r := H
      have A22 := Aside0.mk A220
      clear A220
      by_cases c23 : t1122 = true
      · subst c23
        have H1 : (laws_FnExactKnownBits.j0 k l0 t1115 (t1120 != t1113)) = some r := by rw [if_pos rfl] at H; exact H
        clear H
        have H := H1
        clear H1
        have H' := Aside0.mk H
        clear H
        have hnb24 := NB1121_1114.out
        have hnc24 := NB1114_1121.out
        have hcz25_0 : w19.cell? ⟨gb1121, 0, none⟩ = some (.int .i64 0) := (blk_cell BK1121.out 0).trans rfl
        have hcz25_1 : w19.cell? ⟨gb1121, 1, none⟩ = some (.int .i64 0) := (blk_cell BK1121.out 1).trans rfl
        have hfz25_0 := blk_frozen BK1121.out 0
        have hfz25_1 := blk_frozen BK1121.out 1
        have hcz26_0 : w19.cell? ⟨gb1114, 0, none⟩ = some (.int .i64 t1111) := (blk_cell BK1114.out 0).trans rfl
        have hcz26_1 : w19.cell? ⟨gb1114, 1, none⟩ = some (.int .i64 t1112) := (blk_cell BK1114.out 1).trans rfl
        have hfz26_0 := blk_frozen BK1114.out 0
        have hfz26_1 := blk_frozen BK1114.out 1
        go_wp2_with (first | ((with_reducible refine gate_callee (f := 59) rfl ?_); refine goesL_ (some 29) rfl rfl Try.func59 (by kernel_rfl) rfl #[.agg #[.int .i64 t1118, .int .i64 t1119], .agg #[.int .i64 t1111, .int .i64 t1112]] rfl (by (try simp only [List.map_toArray, List.map_cons, List.map_nil]); first | done | rfl | (simp only [List.length_drop, List.length_take]; rfl)) ?_; (with_reducible refine (laws_eqKnown.calls t1118 t1119 t1111 t1112 true _ A22.out).mono ?_); rintro e w27 ⟨rfl, hb⟩; refine ⟨_, rfl, ?_⟩; have n0_ := Aside0.mk (Kd.R_below (by (with_reducible repeat (first | apply Kd.R_alloc | apply Kd.R_drewN | apply Kd.R_drew)); exact (Kd.R_mono (Kd.R_far (p := ⟨gb1121, 1, none⟩) (Kd.R_far (p := ⟨gb1121, 0, none⟩) (Kd.R_types HO1110.out BK1121.out (by decide)) (fun _ hk => hk.2) (.int .i64 t1118)) (fun _ hk => hk.2) (.int .i64 t1119)) (fun _ h_ => h_.1))) hb); have n1_ := Aside0.mk (Kd.R_below (by (with_reducible repeat (first | apply Kd.R_alloc | apply Kd.R_drewN | apply Kd.R_drew)); exact (Kd.R_mono (Kd.R_far (p := ⟨gb1121, 1, none⟩) (Kd.R_far (p := ⟨gb1121, 0, none⟩) (Kd.R_types HO1117.out BK1121.out (by decide)) (fun _ hk => hk.2) (.int .i64 t1118)) (fun _ hk => hk.2) (.int .i64 t1119)) (fun _ h_ => h_.1))) hb); have n2_ := Aside0.mk (blk_below (g := gb1114) (o := .cells #[.int .i64 t1111, .int .i64 t1112] 62 (0, 0)) (by (with_reducible repeat (first | refine blk_drewN ?_ _ | refine blk_drew ?_ | refine blk_alloc ?_ _)); refine blk_far ?_ NB1114_1121.out _; (with_reducible repeat (first | refine blk_drewN ?_ _ | refine blk_drew ?_ | refine blk_alloc ?_ _)); refine blk_far ?_ NB1114_1121.out _; (with_reducible repeat (first | refine blk_drewN ?_ _ | refine blk_drew ?_ | refine blk_alloc ?_ _)); exact BK1114.out) hb); have n3_ := Aside0.mk (blk_below (g := gb1121) (o := .cells #[.int .i64 t1118, .int .i64 t1119] 62 (0, 0)) (by (with_reducible repeat (first | refine blk_drewN ?_ _ | refine blk_drew ?_ | refine blk_alloc ?_ _)); refine blk_put (cs := #[.int .i64 t1118, .int .i64 0]) ?_ 1 _ rfl; (with_reducible repeat (first | refine blk_drewN ?_ _ | refine blk_drew ?_ | refine blk_alloc ?_ _)); refine blk_put (cs := #[.int .i64 0, .int .i64 0]) ?_ 0 _ rfl; (with_reducible repeat (first | refine blk_drewN ?_ _ | refine blk_drew ?_ | refine blk_alloc ?_ _)); exact BK1121.out) hb); have n4_ := Aside0.mk (below_step (by repeat (first | (with_reducible first | exact HB.out | apply below_alloc | apply pw_below_drewN | apply below_drew1 | refine below_set ?_ GE1114.out | refine below_set ?_ GE1121.out) | exact HB.out)) hb); clear HO1110; clear HO1117; clear BK1114; clear BK1121; clear HB; have HO1110 := n0_; have HO1117 := n1_; have BK1114 := n2_; have BK1121 := n3_; have HB := n4_; clear n0_ n1_ n2_ n3_ n4_; (try clear hb); (try clear hb2); (try clear hk); (try clear hi)))
        go_meet
        case rel => exact ⟨_, ((t1120 != t1113)), (by first | rfl | (simp; done) | (simp [*]; done)), H', ⟨by first | omega | exact Nat.le_refl _⟩, ⟨by (with_reducible repeat (first | apply Kd.R_alloc | apply Kd.R_drewN | apply Kd.R_drew)); exact Kd.R_mono HO1117.out (fun _ hk => trivial)⟩, ⟨by (with_reducible repeat (first | refine blk_drewN ?_ _ | refine blk_drew ?_ | refine blk_alloc ?_ _)); exact BK1114.out⟩, ⟨by (with_reducible repeat (first | refine blk_drewN ?_ _ | refine blk_drew ?_ | refine blk_alloc ?_ _)); exact BK1121.out⟩, ⟨by repeat (first | (with_reducible first | exact HB.out | apply below_alloc | apply pw_below_drewN | apply below_drew1 | refine below_set ?_ GE1114.out | refine below_set ?_ GE1121.out) | exact HB.out)⟩⟩
      · replace c23 := Bool.eq_false_iff.mpr c23
        subst c23
        have H1 : (laws_FnExactKnownBits.j0 k l0 t1115 true) = some r := by rw [if_neg (show ¬ (false = true) by decide)] at H; exact H
        clear H
        have H := H1
        clear H1
        have H' := Aside0.mk H
        clear H
        have hnb28 := NB1121_1114.out
        have hnc28 := NB1114_1121.out
        have hcz29_0 : w19.cell? ⟨gb1121, 0, none⟩ = some (.int .i64 0) := (blk_cell BK1121.out 0).trans rfl
        have hcz29_1 : w19.cell? ⟨gb1121, 1, none⟩ = some (.int .i64 0) := (blk_cell BK1121.out 1).trans rfl
        have hfz29_0 := blk_frozen BK1121.out 0
        have hfz29_1 := blk_frozen BK1121.out 1
        have hcz30_0 : w19.cell? ⟨gb1114, 0, none⟩ = some (.int .i64 t1111) := (blk_cell BK1114.out 0).trans rfl
        have hcz30_1 : w19.cell? ⟨gb1114, 1, none⟩ = some (.int .i64 t1112) := (blk_cell BK1114.out 1).trans rfl
        have hfz30_0 := blk_frozen BK1114.out 0
        have hfz30_1 := blk_frozen BK1114.out 1
        go_wp2_with (first | ((with_reducible refine gate_callee (f := 59) rfl ?_); refine goesL_ (some 29) rfl rfl Try.func59 (by kernel_rfl) rfl #[.agg #[.int .i64 t1118, .int .i64 t1119], .agg #[.int .i64 t1111, .int .i64 t1112]] rfl (by (try simp only [List.map_toArray, List.map_cons, List.map_nil]); first | done | rfl | (simp only [List.length_drop, List.length_take]; rfl)) ?_; (with_reducible refine (laws_eqKnown.calls t1118 t1119 t1111 t1112 false _ A22.out).mono ?_); rintro e w31 ⟨rfl, hb⟩; refine ⟨_, rfl, ?_⟩; have n0_ := Aside0.mk (Kd.R_below (by (with_reducible repeat (first | apply Kd.R_alloc | apply Kd.R_drewN | apply Kd.R_drew)); exact (Kd.R_mono (Kd.R_far (p := ⟨gb1121, 1, none⟩) (Kd.R_far (p := ⟨gb1121, 0, none⟩) (Kd.R_types HO1110.out BK1121.out (by decide)) (fun _ hk => hk.2) (.int .i64 t1118)) (fun _ hk => hk.2) (.int .i64 t1119)) (fun _ h_ => h_.1))) hb); have n1_ := Aside0.mk (Kd.R_below (by (with_reducible repeat (first | apply Kd.R_alloc | apply Kd.R_drewN | apply Kd.R_drew)); exact (Kd.R_mono (Kd.R_far (p := ⟨gb1121, 1, none⟩) (Kd.R_far (p := ⟨gb1121, 0, none⟩) (Kd.R_types HO1117.out BK1121.out (by decide)) (fun _ hk => hk.2) (.int .i64 t1118)) (fun _ hk => hk.2) (.int .i64 t1119)) (fun _ h_ => h_.1))) hb); have n2_ := Aside0.mk (blk_below (g := gb1114) (o := .cells #[.int .i64 t1111, .int .i64 t1112] 62 (0, 0)) (by (with_reducible repeat (first | refine blk_drewN ?_ _ | refine blk_drew ?_ | refine blk_alloc ?_ _)); refine blk_far ?_ NB1114_1121.out _; (with_reducible repeat (first | refine blk_drewN ?_ _ | refine blk_drew ?_ | refine blk_alloc ?_ _)); refine blk_far ?_ NB1114_1121.out _; (with_reducible repeat (first | refine blk_drewN ?_ _ | refine blk_drew ?_ | refine blk_alloc ?_ _)); exact BK1114.out) hb); have n3_ := Aside0.mk (blk_below (g := gb1121) (o := .cells #[.int .i64 t1118, .int .i64 t1119] 62 (0, 0)) (by (with_reducible repeat (first | refine blk_drewN ?_ _ | refine blk_drew ?_ | refine blk_alloc ?_ _)); refine blk_put (cs := #[.int .i64 t1118, .int .i64 0]) ?_ 1 _ rfl; (with_reducible repeat (first | refine blk_drewN ?_ _ | refine blk_drew ?_ | refine blk_alloc ?_ _)); refine blk_put (cs := #[.int .i64 0, .int .i64 0]) ?_ 0 _ rfl; (with_reducible repeat (first | refine blk_drewN ?_ _ | refine blk_drew ?_ | refine blk_alloc ?_ _)); exact BK1121.out) hb); have n4_ := Aside0.mk (below_step (by repeat (first | (with_reducible first | exact HB.out | apply below_alloc | apply pw_below_drewN | apply below_drew1 | refine below_set ?_ GE1114.out | refine below_set ?_ GE1121.out) | exact HB.out)) hb); clear HO1110; clear HO1117; clear BK1114; clear BK1121; clear HB; have HO1110 := n0_; have HO1117 := n1_; have BK1114 := n2_; have BK1121 := n3_; have HB := n4_; clear n0_ n1_ n2_ n3_ n4_; (try clear hb); (try clear hb2); (try clear hk); (try clear hi)))
        go_meet
        case rel => exact ⟨_, (true), (by first | rfl | (simp; done) | (simp [*]; done)), H', ⟨by first | omega | exact Nat.le_refl _⟩, ⟨by (with_reducible repeat (first | apply Kd.R_alloc | apply Kd.R_drewN | apply Kd.R_drew)); exact Kd.R_mono HO1117.out (fun _ hk => trivial)⟩, ⟨by (with_reducible repeat (first | refine blk_drewN ?_ _ | refine blk_drew ?_ | refine blk_alloc ?_ _)); exact BK1114.out⟩, ⟨by (with_reducible repeat (first | refine blk_drewN ?_ _ | refine blk_drew ?_ | refine blk_alloc ?_ _)); exact BK1121.out⟩, ⟨by repeat (first | (with_reducible first | exact HB.out | apply below_alloc | apply pw_below_drewN | apply below_drew1 | refine below_set ?_ GE1114.out | refine below_set ?_ GE1121.out) | exact HB.out)⟩⟩
    case rest =>
      clear HC9
      try clear c1
      try clear c2
      try clear p2
      try clear c3
      try clear c3b0
      try clear c5
      try clear c12
      try clear c20
      try clear c23
      try clear c24
      try clear c26
      try clear c28
      try clear hcz15_0
      try clear hcz15_1
      try clear hcz21_0
      try clear hcz21_1
      try clear hcz25_0
      try clear hcz25_1
      try clear hcz26_0
      try clear hcz26_1
      try clear hcz29_0
      try clear hcz29_1
      try clear hcz30_0
      try clear hcz30_1
      try clear hfz15_0
      try clear hfz15_1
      try clear hfz21_0
      try clear hfz21_1
      try clear hfz25_0
      try clear hfz25_1
      try clear hfz26_0
      try clear hfz26_1
      try clear hfz29_0
      try clear hfz29_1
      try clear hfz30_0
      try clear hfz30_1
      obtain ⟨kq, x35_8, rfl, HA, HJ8, HO_6, BK1114, BK1121, HB⟩ := hcut
      cases kq with
      | zero => exact absurd HA.out (by simp [laws_FnExactKnownBits.j0])
      | succ kj8 =>
        have H := HA.out
        clear HA
        simp only [laws_FnExactKnownBits.j0] at H
        by_cases c32 : x35_8 = true
        · subst c32
          have H1 : (some false) = some r := by rw [if_pos rfl] at H; exact H
          clear H
          have H := H1
          clear H1
          exact absurd ((Option.some.inj H).trans hr) (by decide)
        · replace c32 := Bool.eq_false_iff.mpr c32
          subst c32
          have H1 : ((laws_toNodeS.f kj8 l0).bind fun t1123 => ((laws_eqNodeS.f kj8 t1115 t1123).bind fun t1126 => (if t1126 = true then (some true) else (some false)))) = some r := by rw [if_neg (show ¬ (false = true) by decide)] at H; exact H
          clear H
          have H := H1
          clear H1
          replace H := Option.bind_eq_some_iff.mp H
          obtain ⟨t1123, A330, H⟩ := H
          replace H : ((laws_eqNodeS.f kj8 t1115 t1123).bind fun t1126 => (if t1126 = true then (some true) else (some false))) = some r := H
          have A33 := Aside0.mk A330
          clear A330
          replace H := Option.bind_eq_some_iff.mp H
          obtain ⟨t1126, A340, H⟩ := H
          replace H : (if t1126 = true then (some true) else (some false)) = some r := H
          have A34 := Aside0.mk A340
          clear A340
          by_cases c35 : t1126 = true
          · subst c35
            have H1 : (some true) = some r := by rw [if_pos rfl] at H; exact H
            clear H
            have H := H1
            clear H1
            obtain rfl := Option.some.inj H
            go_wp2_with (first | ((with_reducible refine gate_callee (f := 26) rfl ?_); refine goesL_ (some 38) rfl rfl Try.func26 (by kernel_rfl) rfl #[.slice A0 l0.length c0] rfl (by (try simp only [List.map_toArray, List.map_cons, List.map_nil]); first | done | rfl | (simp only [List.length_drop, List.length_take]; rfl)) ?_; (with_reducible refine (laws_toNodeS.calls kj8 _ _ l0 t1123 _ ?side1 ?side2 A33.out).mono ?_); (case side1 => repeat (first | exact (Kd.C_below HR0.out HB.out) | (with_reducible refine Kd.C_alloc ?_ _) | (with_reducible refine Kd.C_drewN ?_ _) | (with_reducible refine Kd.C_drew ?_))); (case side2 => exact HC0.out); rintro e w36 ⟨v1124, rfl, ho0, hb⟩; refine ⟨_, rfl, ?_⟩; have n0_ := Aside0.mk (Kd.R_elder' (by (with_reducible repeat (first | apply Kd.R_alloc | apply Kd.R_drewN | apply Kd.R_drew)); exact HO_6.out) (Kd.R_base ho0) hb); have n1_ := Aside0.mk (Kd.R_lower (Kd.R_new' ho0 (Kd.R_lt (by (with_reducible repeat (first | apply Kd.R_alloc | apply Kd.R_drewN | apply Kd.R_drew)); exact HO_6.out))) (below_size (by repeat (first | (with_reducible first | exact HB.out | apply below_alloc | apply pw_below_drewN | apply below_drew1 | refine below_set ?_ GE1114.out | refine below_set ?_ GE1121.out) | exact HB.out)))); have n2_ := Aside0.mk (blk_below (g := gb1114) (o := .cells #[.int .i64 t1111, .int .i64 t1112] 62 (0, 0)) (by (with_reducible repeat (first | refine blk_drewN ?_ _ | refine blk_drew ?_ | refine blk_alloc ?_ _)); exact BK1114.out) hb); have n3_ := Aside0.mk (blk_below (g := gb1121) (o := .cells #[.int .i64 t1118, .int .i64 t1119] 62 (0, 0)) (by (with_reducible repeat (first | refine blk_drewN ?_ _ | refine blk_drew ?_ | refine blk_alloc ?_ _)); exact BK1121.out) hb); have n4_ := Aside0.mk (below_step (by repeat (first | (with_reducible first | exact HB.out | apply below_alloc | apply pw_below_drewN | apply below_drew1 | refine below_set ?_ GE1114.out | refine below_set ?_ GE1121.out) | exact HB.out)) hb); clear HO_6; clear BK1114; clear BK1121; clear HB; have HO_6 := n0_; have HO1125 := n1_; have BK1114 := n2_; have BK1121 := n3_; have HB := n4_; clear n0_ n1_ n2_ n3_ n4_; (try clear hb); (try clear hb2); (try clear hk); (try clear hi); (try clear ho0); obtain ⟨Ao37, co37, eo37⟩ := Kd.R_slice HO1125.out; subst eo37) | ((with_reducible refine gate_callee (f := 29) rfl ?_); refine goesL_ (some 39) rfl rfl Try.func29 (by kernel_rfl) rfl #[.slice Ao17 t1115.length co17, .slice Ao37 t1123.length co37] rfl (by (try simp only [List.map_toArray, List.map_cons, List.map_nil]); first | done | rfl | (simp only [List.length_drop, List.length_take]; rfl)) ?_; (with_reducible refine (laws_eqNodeS.calls kj8 _ _ t1115 _ _ t1123 true _ ?side1 ?side2 ?side3 ?side4 A34.out).mono ?_); (case side1 => repeat (first | exact (Kd.R_reads' HO_6.out).2.2 | (with_reducible refine Kd.C_alloc ?_ _) | (with_reducible refine Kd.C_drewN ?_ _) | (with_reducible refine Kd.C_drew ?_))); (case side2 => exact (Kd.R_reads' HO_6.out).2.1); (case side3 => repeat (first | exact (Kd.R_reads' HO1125.out).2.2 | (with_reducible refine Kd.C_alloc ?_ _) | (with_reducible refine Kd.C_drewN ?_ _) | (with_reducible refine Kd.C_drew ?_))); (case side4 => exact (Kd.R_reads' HO1125.out).2.1); rintro e w38 ⟨rfl, hb⟩; refine ⟨_, rfl, ?_⟩; have n0_ := Aside0.mk (Kd.R_below (by (with_reducible repeat (first | apply Kd.R_alloc | apply Kd.R_drewN | apply Kd.R_drew)); exact HO_6.out) hb); have n1_ := Aside0.mk (Kd.R_below (by (with_reducible repeat (first | apply Kd.R_alloc | apply Kd.R_drewN | apply Kd.R_drew)); exact HO1125.out) hb); have n2_ := Aside0.mk (blk_below (g := gb1114) (o := .cells #[.int .i64 t1111, .int .i64 t1112] 62 (0, 0)) (by (with_reducible repeat (first | refine blk_drewN ?_ _ | refine blk_drew ?_ | refine blk_alloc ?_ _)); exact BK1114.out) hb); have n3_ := Aside0.mk (blk_below (g := gb1121) (o := .cells #[.int .i64 t1118, .int .i64 t1119] 62 (0, 0)) (by (with_reducible repeat (first | refine blk_drewN ?_ _ | refine blk_drew ?_ | refine blk_alloc ?_ _)); exact BK1121.out) hb); have n4_ := Aside0.mk (below_step (by repeat (first | (with_reducible first | exact HB.out | apply below_alloc | apply pw_below_drewN | apply below_drew1 | refine below_set ?_ GE1114.out | refine below_set ?_ GE1121.out) | exact HB.out)) hb); clear HO_6; clear HO1125; clear BK1114; clear BK1121; clear HB; have HO_6 := n0_; have HO1125 := n1_; have BK1114 := n2_; have BK1121 := n3_; have HB := n4_; clear n0_ n1_ n2_ n3_ n4_; (try clear hb); (try clear hb2); (try clear hk); (try clear hi)))
            go_ret
            exact ⟨by first | rfl | (simp [errW_none, errW_some] <;> rfl) | (simp [*, errW_none, errW_some] <;> rfl), by repeat (first | (with_reducible first | exact HB.out | apply below_alloc | apply pw_below_drewN | apply below_drew1 | refine below_set ?_ GE1114.out | refine below_set ?_ GE1121.out) | exact HB.out)⟩
          · replace c35 := Bool.eq_false_iff.mpr c35
            subst c35
            have H1 : (some false) = some r := by rw [if_neg (show ¬ (false = true) by decide)] at H; exact H
            clear H
            have H := H1
            clear H1
            exact absurd ((Option.some.inj H).trans hr) (by decide)

end Go.Proofs.Ytaddadknmipfeaa.F
