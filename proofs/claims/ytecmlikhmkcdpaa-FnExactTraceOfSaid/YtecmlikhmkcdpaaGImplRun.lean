/- Contracts: impl_run. -/
import Derived.Test.YtecmlikhmkcdpaaGK
import Derived.Test.YtecmlikhmkcdpaaTW
import Derived.Test.YtecmlikhmkcdpaaGLawsSzInstr
import Derived.Test.YtecmlikhmkcdpaaGLawsMarkInstrS
import Derived.Test.YtecmlikhmkcdpaaGImplIsCodeC1
import Derived.Test.YtecmlikhmkcdpaaGSpecTraceOf
namespace Go.Proofs.Ytecmlikhmkcdpaa.G
open Go.RowKit Go.Proofs.YtecmlikhmkcdpaaW.PrintWords Go.Proofs.YtecmlikhmkcdpaaW.PrintLast Go.Proofs.YtecmlikhmkcdpaaW.PrintMore
attribute [local go_sem] max2_int min2_int max_two min_two max_three min_three max_four min_four   -- for this text's walks alone
set_option linter.unusedVariables false
set_option linter.unusedSimpArgs false

/-! ### impl_run: function 80 -/
def impl_run.l0 : Nat → List Int → List (S67) → Int → Int → Option (List Int)
 | 0, _, _, _, _ => none
 | k + 1, x1, x6, x7, x8 => if x8 < x7 then (if 0 ≤ x8 then (if x8 < (x6.length : Int) then (if 0 ≤ ((rd_T67 x6 x8).f2) then (if ((rd_T67 x6 x8).f2) < (x1.length : Int) then (if 0 ≤ ((rd_T67 x6 x8).f3) then (if ((rd_T67 x6 x8).f3) < (x1.length : Int) then ((impl_Instr_word.f k ((rd_T67 x6 x8).f0) ((rd_T67 x6 x8).f1) ((rd_T67 x6 x8).f2) ((rd_T67 x6 x8).f3) ((rd_T67 x6 x8).f4) (rd x1 ((rd_T67 x6 x8).f2)) (rd x1 ((rd_T67 x6 x8).f3))).bind fun t634 => (if 0 ≤ ((rd_T67 x6 x8).f1) then (if ((rd_T67 x6 x8).f1) < (x1.length : Int) then (impl_run.l0 k (x1.set (((rd_T67 x6 x8).f1) : Int).toNat t634) x6 x7 (wrap64 (x8 + 1))) else (none)) else (none))) else (none)) else (none)) else (none)) else (none)) else (none)) else (none)) else (some x1)
def impl_run.f (k : Nat) (l0 : List (S67)) (l1 : List Int) : Option (List Int) := impl_run.l0 k l1 l0 (l0.length : Int) 0
theorem impl_run.mono_l : ∀ k, (∀ y0 y1 y2 y3, LeO (impl_run.l0 k y0 y1 y2 y3) (impl_run.l0 (k + 1) y0 y1 y2 y3))
 | 0 => fun _ _ _ _ r h => by simp [impl_run.l0] at h
 | k + 1 => by
  have ih0 := impl_run.mono_l k
  ·intro y0 y1 y2 y3
   unfold impl_run.l0
   repeat' first
   | (with_reducible exact ih0 _ _ _ _)
   | (with_reducible exact impl_Instr_word.mono _ _ _ _ _ _ _ _)
   | (with_reducible exact LeO.refl _)
   | (with_reducible exact LeO.none _)
   | (with_reducible refine LeO.ite ?_ ?_)
   | (with_reducible refine LeO.bind ?_ (fun _ => ?_))
   | exact ih0 _ _ _ _
   | exact impl_Instr_word.mono _ _ _ _ _ _ _ _
   | exact LeO.none _
   | refine LeO.ite ?_ ?_
   | refine LeO.bind ?_ (fun _ => ?_)
theorem impl_run.mono : ∀ a0 a1 k, LeO (impl_run.f k a0 a1) (impl_run.f (k + 1) a0 a1) := by
 intro a0 a1 k
 have ih0 := impl_run.mono_l k
 unfold impl_run.f
 repeat' first
   | (with_reducible exact ih0 _ _ _ _)
   | (with_reducible exact impl_Instr_word.mono _ _ _ _ _ _ _ _)
   | (with_reducible exact LeO.refl _)
   | (with_reducible exact LeO.none _)
   | (with_reducible refine LeO.ite ?_ ?_)
   | (with_reducible refine LeO.bind ?_ (fun _ => ?_))
   | exact ih0 _ _ _ _
   | exact impl_Instr_word.mono _ _ _ _ _ _ _ _
   | exact LeO.none _
   | refine LeO.ite ?_ ?_
   | refine LeO.bind ?_ (fun _ => ?_)
def impl_run.T3 : Bool × List (List Nat × List Nat) := (true, [([], []), ([], []), ([1], [1]), ([], []), ([], []), ([], []), ([5], [5]), ([4, 6], [4, 6]), ([7], [7]), ([], []), ([], []), ([10], [10]), ([9, 11], [9, 11]), ([12], [12]), ([3, 8, 13], [3, 8, 13]), ([0, 2, 0, 1, 2, 3, 4, 5, 6, 7, 8, 9, 10, 11, 12, 13, 14], [0, 2]), ([15, 14, 14, 0, 1, 2, 3, 4, 5, 6, 7, 8, 9, 10, 11, 12, 13, 14], [14, 15])])
def impl_run.B3 : List Nat := [0, 0, 2, 0, 0, 0, 32, 112, 240, 0, 0, 1024, 3584, 7680, 16376, 32767, 65535]
theorem impl_run.tab3 : rtab .any (opsOf Try.f80 3) = impl_run.T3 := by kernel_rfl
theorem impl_run.bits3 : waitsOk impl_run.T3.2 impl_run.B3 = true := by kernel_rfl
set_option maxHeartbeats 8000000 in
set_option maxRecDepth 100000 in
theorem impl_run.calls (k : Nat) (A0 : Option Addr) (c0 : Nat) (l0 : List (S67)) (P1_ : Nat → Prop) (u9000_ : Value) (l1 : List Int) (r : List Int) (w0 w : World) (hB : Below w0.heap.size w0 w) (hr0 : ∀ W_, Kept w W_ (fun k_ => P1_ k_) → Kd.C k67 W_ A0 l0.length l0) (hc0 : l0.length ≤ c0) (ho1 : Kd.R (Kd.int .i64) 3 w w0.heap.size P1_ u9000_ l1) (h : impl_run.f k l0 l1 = some r) :
  Calls Try.prog 80 #[.slice A0 l0.length c0, u9000_] w fun e w' => e = .returned (.tuple #[]) ∧ Kd.R (Kd.int .i64) 3 w' w0.heap.size (fun k_ => (P1_ k_ ∨ w.heap.size ≤ k_)) u9000_ r ∧ Below w0.heap.size w0 w' ∧ Kept w w' (fun k_ => P1_ k_) := by
 have hu67 := Try.underlying67
 have HR0 := zK hr0
 have HC0 := zK hc0
 clear hr0 hc0
 have HO1 := zK (show Kd.R (Kd.int .i64) 3 w w0.heap.size (fun k_ => (P1_ k_ ∨ w.heap.size ≤ k_)) u9000_ l1 from Kd.R_mono ho1 (fun k_ hk => (.inl hk)))
 have HK := zK (Kept.refl w (fun k_ => P1_ k_))
 have HW0 := zK hB.size
 have HB := zK hB
 clear hB
 have H : (impl_run.l0 k l1 l0 (l0.length : Int) 0) = some r := h
 clear h
 have H' := zK H
 clear H
 go_enter Try.func80, Try.ntmps80
 go_wp2
 go_loopg [8] k (fun kq v8 w' => ∃ (x1_1 : List Int) (x8_1 : Int), v8 = .int .i64 x8_1 ∧ Aside0 (impl_run.l0 kq x1_1 l0 (l0.length : Int) x8_1 = some r) ∧ Aside0 (kq ≤ k) ∧ Aside0 (Kd.R (Kd.int .i64) 3 w' w0.heap.size (fun k_ => (P1_ k_ ∨ w.heap.size ≤ k_)) u9000_ x1_1) ∧ Aside0 (Kept w w' (fun k_ => P1_ k_)) ∧ Aside0 (Below w0.heap.size w0 w'))
 case atStart => exact ⟨(l1), (0), (by first | rfl | (simp; done) | (simp [*]; done)), H', ⟨Nat.le_refl _⟩, ⟨by (with_reducible repeat (first | apply Kd.R_alloc | apply Kd.R_drewN | apply Kd.R_drew)); exact HO1.out⟩, ⟨by repeat (first | (with_reducible first | exact HK.out | apply Kept.alloc | apply Kept.drewN | apply Kept.drew) | exact HK.out)⟩, ⟨by repeat (first | (with_reducible first | exact HB.out | apply zA | apply zB | apply zC) | exact HB.out)⟩⟩
 case round =>
  clear H'
  try clear p2
  obtain ⟨x1_1, x8_1, rfl, HA, HK1, HO_1, HK, HB⟩ := hrel
  cases gk with
  | zero => exact absurd HA.out (by simp [impl_run.l0])
  | succ k1 =>
   have H := HA.out
   clear HA
   simp only [impl_run.l0] at H
   by_cases c3 : x8_1 < (l0.length : Int)
   ·rw [if_pos c3] at H
    have c3b0 : decide (x8_1 < (l0.length : Int)) = true := decide_eq_true c3
    clear c3
    by_cases c4 : 0 ≤ x8_1
    ·rw [if_pos c4] at H
     have c4b0 : decide (0 ≤ x8_1) = true := decide_eq_true c4
     clear c4
     by_cases c5 : x8_1 < (l0.length : Int)
     ·rw [if_pos c5] at H
      have c5b0 : decide (x8_1 < (l0.length : Int)) = true := decide_eq_true c5
      clear c5
      by_cases c6 : 0 ≤ ((rd_T67 l0 x8_1).f2)
      ·rw [if_pos c6] at H
       have c6b0 : decide (0 ≤ ((rd_T67 l0 x8_1).f2)) = true := decide_eq_true c6
       clear c6
       by_cases c7 : ((rd_T67 l0 x8_1).f2) < (x1_1.length : Int)
       ·rw [if_pos c7] at H
        have c7b0 : decide (((rd_T67 l0 x8_1).f2) < (x1_1.length : Int)) = true := decide_eq_true c7
        clear c7
        by_cases c8 : 0 ≤ ((rd_T67 l0 x8_1).f3)
        ·rw [if_pos c8] at H
         have c8b0 : decide (0 ≤ ((rd_T67 l0 x8_1).f3)) = true := decide_eq_true c8
         clear c8
         by_cases c9 : ((rd_T67 l0 x8_1).f3) < (x1_1.length : Int)
         ·rw [if_pos c9] at H
          have c9b0 : decide (((rd_T67 l0 x8_1).f3) < (x1_1.length : Int)) = true := decide_eq_true c9
          clear c9
          replace H := Option.bind_eq_some_iff.mp H
          obtain ⟨t634, A100, H⟩ := H
          replace H : (if 0 ≤ ((rd_T67 l0 x8_1).f1) then (if ((rd_T67 l0 x8_1).f1) < (x1_1.length : Int) then (impl_run.l0 k1 (x1_1.set (((rd_T67 l0 x8_1).f1) : Int).toNat t634) l0 (l0.length : Int) (wrap64 (x8_1 + 1))) else (none)) else (none)) = some r := H
          have A10 := zK A100
          clear A100
          by_cases c11 : 0 ≤ ((rd_T67 l0 x8_1).f1)
          ·rw [if_pos c11] at H
           have c11b0 : decide (0 ≤ ((rd_T67 l0 x8_1).f1)) = true := decide_eq_true c11
           clear c11
           by_cases c12 : ((rd_T67 l0 x8_1).f1) < (x1_1.length : Int)
           ·rw [if_pos c12] at H
            have c12b0 : decide (((rd_T67 l0 x8_1).f1) < (x1_1.length : Int)) = true := decide_eq_true c12
            clear c12
            obtain ⟨y635, hy635⟩ : ∃ y_ : List Int, y_ = (x1_1.set (((rd_T67 l0 x8_1).f1) : Int).toNat t634) := ⟨_, rfl⟩
            replace H : (impl_run.l0 k1 y635 l0 (l0.length : Int) (wrap64 (x8_1 + 1))) = some r := by first | (rw [hy635]; with_reducible exact H) | (have H2_ := (Option.bind_some _ _).symm.trans H; rw [hy635]; with_reducible exact H2_) | (have H2_ := (Option.bind_some _ _).symm.trans H; with_reducible exact H2_) | with_reducible exact H | (rw [hy635]; exact H) | exact H
            have Ny635 := zK hy635
            clear hy635
            have H' := zK H
            clear H
            have p630 : 0 ≤ (x8_1 : Int) := zo
            have q630 : x8_1 < (l0.length : Int) := zo
            obtain ⟨ad630, e630, hx630_0, hx630_1, hx630_2, hx630_3, hx630_4⟩ := at_T67 (Kd.C_kept_now HR0.out HK.out) x8_1 p630 q630
            cases e630
            replace p630 := eq_true p630
            replace q630 := eq_true q630
            try go_wp2_with (first | ((with_reducible refine gate_dst (N := 5) rfl ?_); refine box_event ?hg (N := 5) ?hd (cs := #[.string (⟨#[]⟩ : ByteArray), .int .i64 0, .int .i64 0, .int .i64 0, .int .i64 0]) (t := 67) ?hr ?_; (case hd => rfl); (case hg => rfl); (case hr => first | (go_simp; done) | (go_simp; rfl)); intro gb631 hg w14 hbox hb; have n0_ := zK (Kd.R_below (by (with_reducible repeat (first | apply Kd.R_alloc | apply Kd.R_drewN | apply Kd.R_drew)); exact HO_1.out) hb); have n1_ := zK (Kept.below (S := (fun k_ => P1_ k_)) (by repeat (first | (with_reducible first | exact HK.out | apply Kept.alloc | apply Kept.drewN | apply Kept.drew) | exact HK.out)) hb); have n2_ := zK (zL (by repeat (first | (with_reducible first | exact HB.out | apply zA | apply zB | apply zC) | exact HB.out)) hb); have n3_ := zK (hbox); have n4_ := zK ((by rw [hg]; exact (by first | exact HK.out.1 | exact (show Kept w _ (fun k_ => P1_ k_) from by repeat (first | (with_reducible first | exact HK.out | apply Kept.alloc | apply Kept.drewN | apply Kept.drew) | exact HK.out)).1) : w.heap.size ≤ gb631)); have n5_ := zK ((by rw [hg]; exact (zN (by repeat (first | (with_reducible first | exact HB.out | apply zA | apply zB | apply zC) | exact HB.out))) : w0.heap.size ≤ gb631)); clear HO_1; clear HK; clear HB; have HO_1 := n0_; have HK := n1_; have HB := n2_; have BK631 := n3_; have GW631 := n4_; have GE631 := n5_; clear n0_ n1_ n2_ n3_ n4_ n5_; clear hb hbox hg; have hcz15_0 : w14.cell? ⟨gb631, 0, none⟩ = some (.string (⟨#[]⟩ : ByteArray)) := (zI BK631.out 0).trans rfl; have hcz15_1 : w14.cell? ⟨gb631, 1, none⟩ = some (.int .i64 0) := (zI BK631.out 1).trans rfl; have hcz15_2 : w14.cell? ⟨gb631, 2, none⟩ = some (.int .i64 0) := (zI BK631.out 2).trans rfl; have hcz15_3 : w14.cell? ⟨gb631, 3, none⟩ = some (.int .i64 0) := (zI BK631.out 3).trans rfl; have hcz15_4 : w14.cell? ⟨gb631, 4, none⟩ = some (.int .i64 0) := (zI BK631.out 4).trans rfl; have hfz15_0 := zH BK631.out 0; have hfz15_1 := zH BK631.out 1; have hfz15_2 := zH BK631.out 2; have hfz15_3 := zH BK631.out 3; have hfz15_4 := zH BK631.out 4))
            have n0_ : Aside0 (Kd.R (Kd.int .i64) 3 (((((w14.setCell ⟨gb631, 0, none⟩ (.string ((rd_T67 l0 x8_1).f0))).setCell ⟨gb631, 1, none⟩ (.int .i64 ((rd_T67 l0 x8_1).f1))).setCell ⟨gb631, 2, none⟩ (.int .i64 ((rd_T67 l0 x8_1).f2))).setCell ⟨gb631, 3, none⟩ (.int .i64 ((rd_T67 l0 x8_1).f3))).setCell ⟨gb631, 4, none⟩ (.int .i64 ((rd_T67 l0 x8_1).f4))) w0.heap.size (fun k_ => (P1_ k_ ∨ w.heap.size ≤ k_)) u9000_ x1_1) := ⟨by (with_reducible repeat (first | apply Kd.R_alloc | apply Kd.R_drewN | apply Kd.R_drew)); exact Kd.R_mono (Kd.R_far (p := ⟨gb631, 4, none⟩) (Kd.R_far (p := ⟨gb631, 3, none⟩) (Kd.R_far (p := ⟨gb631, 2, none⟩) (Kd.R_far (p := ⟨gb631, 1, none⟩) (Kd.R_far (p := ⟨gb631, 0, none⟩) (Kd.R_types HO_1.out BK631.out (by decide)) (fun _ hk => hk.2) (.string ((rd_T67 l0 x8_1).f0))) (fun _ hk => hk.2) (.int .i64 ((rd_T67 l0 x8_1).f1))) (fun _ hk => hk.2) (.int .i64 ((rd_T67 l0 x8_1).f2))) (fun _ hk => hk.2) (.int .i64 ((rd_T67 l0 x8_1).f3))) (fun _ hk => hk.2) (.int .i64 ((rd_T67 l0 x8_1).f4))) (fun _ hk => hk.1)⟩
            have n1_ : Aside0 ((((((w14.setCell ⟨gb631, 0, none⟩ (.string ((rd_T67 l0 x8_1).f0))).setCell ⟨gb631, 1, none⟩ (.int .i64 ((rd_T67 l0 x8_1).f1))).setCell ⟨gb631, 2, none⟩ (.int .i64 ((rd_T67 l0 x8_1).f2))).setCell ⟨gb631, 3, none⟩ (.int .i64 ((rd_T67 l0 x8_1).f3))).setCell ⟨gb631, 4, none⟩ (.int .i64 ((rd_T67 l0 x8_1).f4))).heap[gb631]? = some (.cells #[.string ((rd_T67 l0 x8_1).f0), .int .i64 ((rd_T67 l0 x8_1).f1), .int .i64 ((rd_T67 l0 x8_1).f2), .int .i64 ((rd_T67 l0 x8_1).f3), .int .i64 ((rd_T67 l0 x8_1).f4)] 67 (0, 0))) := ⟨by (with_reducible repeat (first | refine zE ?_ _ | refine zF ?_ | refine zG ?_ _)); refine blk_put (cs := #[.string ((rd_T67 l0 x8_1).f0), .int .i64 ((rd_T67 l0 x8_1).f1), .int .i64 ((rd_T67 l0 x8_1).f2), .int .i64 ((rd_T67 l0 x8_1).f3), .int .i64 0]) ?_ 4 _ rfl; (with_reducible repeat (first | refine zE ?_ _ | refine zF ?_ | refine zG ?_ _)); refine blk_put (cs := #[.string ((rd_T67 l0 x8_1).f0), .int .i64 ((rd_T67 l0 x8_1).f1), .int .i64 ((rd_T67 l0 x8_1).f2), .int .i64 0, .int .i64 0]) ?_ 3 _ rfl; (with_reducible repeat (first | refine zE ?_ _ | refine zF ?_ | refine zG ?_ _)); refine blk_put (cs := #[.string ((rd_T67 l0 x8_1).f0), .int .i64 ((rd_T67 l0 x8_1).f1), .int .i64 0, .int .i64 0, .int .i64 0]) ?_ 2 _ rfl; (with_reducible repeat (first | refine zE ?_ _ | refine zF ?_ | refine zG ?_ _)); refine blk_put (cs := #[.string ((rd_T67 l0 x8_1).f0), .int .i64 0, .int .i64 0, .int .i64 0, .int .i64 0]) ?_ 1 _ rfl; (with_reducible repeat (first | refine zE ?_ _ | refine zF ?_ | refine zG ?_ _)); refine blk_put (cs := #[.string (⟨#[]⟩ : ByteArray), .int .i64 0, .int .i64 0, .int .i64 0, .int .i64 0]) ?_ 0 _ rfl; (with_reducible repeat (first | refine zE ?_ _ | refine zF ?_ | refine zG ?_ _)); exact BK631.out⟩
            have n2_ : Aside0 (Kept w (((((w14.setCell ⟨gb631, 0, none⟩ (.string ((rd_T67 l0 x8_1).f0))).setCell ⟨gb631, 1, none⟩ (.int .i64 ((rd_T67 l0 x8_1).f1))).setCell ⟨gb631, 2, none⟩ (.int .i64 ((rd_T67 l0 x8_1).f2))).setCell ⟨gb631, 3, none⟩ (.int .i64 ((rd_T67 l0 x8_1).f3))).setCell ⟨gb631, 4, none⟩ (.int .i64 ((rd_T67 l0 x8_1).f4))) (fun k_ => P1_ k_)) := ⟨by repeat (first | (with_reducible first | exact HK.out | apply Kept.alloc | apply Kept.drewN | apply Kept.drew | refine Kept.setCell ?_ (.inr GW631.out) _) | exact HK.out)⟩
            have n3_ : Aside0 (Below w0.heap.size w0 (((((w14.setCell ⟨gb631, 0, none⟩ (.string ((rd_T67 l0 x8_1).f0))).setCell ⟨gb631, 1, none⟩ (.int .i64 ((rd_T67 l0 x8_1).f1))).setCell ⟨gb631, 2, none⟩ (.int .i64 ((rd_T67 l0 x8_1).f2))).setCell ⟨gb631, 3, none⟩ (.int .i64 ((rd_T67 l0 x8_1).f3))).setCell ⟨gb631, 4, none⟩ (.int .i64 ((rd_T67 l0 x8_1).f4)))) := ⟨by repeat (first | (with_reducible first | exact HB.out | apply zA | apply zB | apply zC | refine zD ?_ GE631.out) | exact HB.out)⟩
            (try clear HO_1)
            (try clear BK631)
            (try clear HK)
            (try clear HB)
            generalize (((((w14.setCell ⟨gb631, 0, none⟩ (.string ((rd_T67 l0 x8_1).f0))).setCell ⟨gb631, 1, none⟩ (.int .i64 ((rd_T67 l0 x8_1).f1))).setCell ⟨gb631, 2, none⟩ (.int .i64 ((rd_T67 l0 x8_1).f2))).setCell ⟨gb631, 3, none⟩ (.int .i64 ((rd_T67 l0 x8_1).f3))).setCell ⟨gb631, 4, none⟩ (.int .i64 ((rd_T67 l0 x8_1).f4))) = w16 at n0_ n1_ n2_ n3_ ⊢
            have HO_1 := n0_
            have BK631 := n1_
            have HK := n2_
            have HB := n3_
            clear n0_ n1_ n2_ n3_
            have n0_ := zK (Kd.R_drew HO_1.out)
            have n1_ := zK (zF BK631.out)
            have n2_ := zK (Kept.drew HK.out)
            have n3_ := zK (zC HB.out)
            clear HO_1
            clear BK631
            clear HK
            clear HB
            have HO_1 := n0_
            have BK631 := n1_
            have HK := n2_
            have HB := n3_
            clear n0_ n1_ n2_ n3_
            obtain ⟨Ao18, co18, eo18⟩ := Kd.R_slice HO_1.out
            (first | subst eo18 | (injection eo18 with f1_ f2_ f3_; have f4_ := f1_.symm; have f5_ := f3_.symm; clear f1_ f2_ f3_; subst f4_; subst f5_))
            have p632 : 0 ≤ (((rd_T67 l0 x8_1).f2) : Int) := zo
            have q632 : ((rd_T67 l0 x8_1).f2) < (x1_1.length : Int) := zo
            obtain ⟨ad632, e632, hx632_0⟩ := Kd.at_int (Kd.R_reads' HO_1.out).2.2 ((rd_T67 l0 x8_1).f2) p632 q632
            cases e632
            replace p632 := eq_true p632
            replace q632 := eq_true q632
            have p633 : 0 ≤ (((rd_T67 l0 x8_1).f3) : Int) := zo
            have q633 : ((rd_T67 l0 x8_1).f3) < (x1_1.length : Int) := zo
            obtain ⟨ad633, e633, hx633_0⟩ := Kd.at_int (Kd.R_reads' HO_1.out).2.2 ((rd_T67 l0 x8_1).f3) p633 q633
            obtain rfl : ad632 = ad633 := (by injection e633)
            replace p633 := eq_true p633
            replace q633 := eq_true q633
            refine start_ (n := 17) (S := fun w' => w'.cell? ⟨gb631, 0, none⟩ = some (.string ((rd_T67 l0 x8_1).f0)) ∧ w'.cell? ⟨gb631, 1, none⟩ = some (.int .i64 ((rd_T67 l0 x8_1).f1)) ∧ w'.cell? ⟨gb631, 2, none⟩ = some (.int .i64 ((rd_T67 l0 x8_1).f2)) ∧ w'.cell? ⟨gb631, 3, none⟩ = some (.int .i64 ((rd_T67 l0 x8_1).f3)) ∧ w'.cell? ⟨gb631, 4, none⟩ = some (.int .i64 ((rd_T67 l0 x8_1).f4)) ∧ w'.cell? (ad632.add (((rd_T67 l0 x8_1).f2)).toNat) = some (.int .i64 (rd x1_1 ((rd_T67 l0 x8_1).f2))) ∧ w'.cell? (ad632.add (((rd_T67 l0 x8_1).f3)).toNat) = some (.int .i64 (rd x1_1 ((rd_T67 l0 x8_1).f3)))) (ds := [16]) #[false, false, false, false, false, false, false, false, false, false, false, false, false, false, false, false, false] (by kernel_rfl) rfl rfl ⟨(zI BK631.out 0).trans rfl, (zI BK631.out 1).trans rfl, (zI BK631.out 2).trans rfl, (zI BK631.out 3).trans rfl, (zI BK631.out 4).trans rfl, hx632_0, hx633_0⟩ (fun hHeld => ?_); refine with_tabW impl_run.tab3 impl_run.bits3 (fun HT_ HW_ => ?_)
            generalize w16.drew = w17 at HO_1 BK631 HK HB hx632_0 hx633_0 hHeld ⊢
            refine pure_ (i := 0) (N := some 12) (v := ?_) (a' := ?_) #[true, false, false, false, false, false, false, false, false, false, false, false, false, false, false, false, false] rfl rfl (any_of HT_.out (by kernel_rfl)) (fun _ _ _ h => h) (Or.inl ⟨by rfl, ?_⟩) ?_ ?_
            rotate_left
            ·intro w'
             go_simp
             with_reducible rfl
            rotate_left
            ·simp only [Act.put, z1, z2, z3, i64_w, i32_w]
             rfl
            refine pure_ (i := 1) (N := some 13) (v := ?_) (a' := ?_) #[true, true, false, false, false, false, false, false, false, false, false, false, false, false, false, false, false] rfl rfl (any_of HT_.out (by kernel_rfl)) (fun _ _ _ h => h) (Or.inl ⟨by rfl, ?_⟩) ?_ ?_
            rotate_left
            ·intro w'
             go_simp
             with_reducible rfl
            rotate_left
            ·simp only [Act.put, z1, z2, z3, i64_w, i32_w]
             rfl
            refine pure_ (i := 4) (N := some 16) (v := ?_) (a' := ?_) #[true, true, false, false, true, false, false, false, false, false, false, false, false, false, false, false, false] rfl rfl (any_of HT_.out (by kernel_rfl)) (fun _ _ _ h => h) (Or.inl ⟨by rfl, ?_⟩) ?_ ?_
            rotate_left
            ·intro w'
             go_simp
             with_reducible rfl
            rotate_left
            ·simp only [Act.put, z1, z2, z3, i64_w, i32_w]
             rfl
            refine pure_ (i := 5) (N := some 17) (v := ?_) (a' := ?_) #[true, true, false, false, true, true, false, false, false, false, false, false, false, false, false, false, false] rfl rfl (any_of HT_.out (by kernel_rfl)) (fun _ _ _ h => h) (Or.inl ⟨by rfl, ?_⟩) ?_ ?_
            rotate_left
            ·intro w'
             go_simp
             with_reducible rfl
            rotate_left
            ·simp only [Act.put, z1, z2, z3, i64_w, i32_w]
             rfl
            refine pure_ (i := 9) (N := some 21) (v := ?_) (a' := ?_) #[true, true, false, false, true, true, false, false, false, true, false, false, false, false, false, false, false] rfl rfl (any_of HT_.out (by kernel_rfl)) (fun _ _ _ h => h) (Or.inl ⟨by rfl, ?_⟩) ?_ ?_
            rotate_left
            ·intro w'
             go_simp
             with_reducible rfl
            rotate_left
            ·simp only [Act.put, z1, z2, z3, i64_w, i32_w]
             rfl
            refine pure_ (i := 10) (N := some 22) (v := ?_) (a' := ?_) #[true, true, false, false, true, true, false, false, false, true, true, false, false, false, false, false, false] rfl rfl (any_of HT_.out (by kernel_rfl)) (fun _ _ _ h => h) (Or.inl ⟨by rfl, ?_⟩) ?_ ?_
            rotate_left
            ·intro w'
             go_simp
             with_reducible rfl
            rotate_left
            ·simp only [Act.put, z1, z2, z3, i64_w, i32_w]
             rfl
            refine take_ (i := 2) (N := some 14) (v := ?_) (a' := ?_) #[true, true, true, false, true, true, false, false, false, true, true, false, false, false, false, false, false] rfl rfl (take_ofW HT_.out HW_.out (by kernel_rfl)) (fun _ _ _ h => h) (Or.inl ⟨by rfl, ?_⟩) hHeld ?_ ?_
            rotate_left
            ·rintro w' ⟨s0, s1, s2, s3, s4, s5, s6⟩
             go_simp
             with_reducible rfl
            rotate_left
            ·simp only [Act.put, z1, z2, z3, i64_w, i32_w]
             rfl
            refine take_ (i := 3) (N := some 15) (v := ?_) (a' := ?_) #[true, true, true, true, true, true, false, false, false, true, true, false, false, false, false, false, false] rfl rfl (take_ofW HT_.out HW_.out (by kernel_rfl)) (fun _ _ _ h => h) (Or.inl ⟨by rfl, ?_⟩) hHeld ?_ ?_
            rotate_left
            ·rintro w' ⟨s0, s1, s2, s3, s4, s5, s6⟩
             go_simp
             with_reducible rfl
            rotate_left
            ·simp only [Act.put, z1, z2, z3, i64_w, i32_w]
             rfl
            refine take_ (i := 6) (N := some 18) (v := ?_) (a' := ?_) #[true, true, true, true, true, true, true, false, false, true, true, false, false, false, false, false, false] rfl rfl (take_ofW HT_.out HW_.out (by kernel_rfl)) (fun _ _ _ h => h) (Or.inl ⟨by rfl, ?_⟩) hHeld ?_ ?_
            rotate_left
            ·rintro w' ⟨s0, s1, s2, s3, s4, s5, s6⟩
             go_simp
             with_reducible rfl
            rotate_left
            ·simp only [Act.put, z1, z2, z3, i64_w, i32_w]
             rfl
            refine pure_ (i := 7) (N := some 19) (v := ?_) (a' := ?_) #[true, true, true, true, true, true, true, true, false, true, true, false, false, false, false, false, false] rfl rfl (any_of HT_.out (by kernel_rfl)) (fun _ _ _ h => h) (Or.inl ⟨by rfl, ?_⟩) ?_ ?_
            rotate_left
            ·intro w'
             go_simp
             with_reducible rfl
            rotate_left
            ·simp only [Act.put, z1, z2, z3, i64_w, i32_w]
             rfl
            refine take_ (i := 8) (N := some 20) (v := ?_) (a' := ?_) #[true, true, true, true, true, true, true, true, true, true, true, false, false, false, false, false, false] rfl rfl (take_ofW HT_.out HW_.out (by kernel_rfl)) (fun _ _ _ h => h) (Or.inl ⟨by rfl, ?_⟩) hHeld ?_ ?_
            rotate_left
            ·rintro w' ⟨s0, s1, s2, s3, s4, s5, s6⟩
             go_simp
             with_reducible rfl
            rotate_left
            ·simp only [Act.put, z1, z2, z3, i64_w, i32_w]
             rfl
            refine take_ (i := 11) (N := some 23) (v := ?_) (a' := ?_) #[true, true, true, true, true, true, true, true, true, true, true, true, false, false, false, false, false] rfl rfl (take_ofW HT_.out HW_.out (by kernel_rfl)) (fun _ _ _ h => h) (Or.inl ⟨by rfl, ?_⟩) hHeld ?_ ?_
            rotate_left
            ·rintro w' ⟨s0, s1, s2, s3, s4, s5, s6⟩
             go_simp
             with_reducible rfl
            rotate_left
            ·simp only [Act.put, z1, z2, z3, i64_w, i32_w]
             rfl
            refine pure_ (i := 12) (N := some 24) (v := ?_) (a' := ?_) #[true, true, true, true, true, true, true, true, true, true, true, true, true, false, false, false, false] rfl rfl (any_of HT_.out (by kernel_rfl)) (fun _ _ _ h => h) (Or.inl ⟨by rfl, ?_⟩) ?_ ?_
            rotate_left
            ·intro w'
             go_simp
             with_reducible rfl
            rotate_left
            ·simp only [Act.put, z1, z2, z3, i64_w, i32_w]
             rfl
            refine take_ (i := 13) (N := some 25) (v := ?_) (a' := ?_) #[true, true, true, true, true, true, true, true, true, true, true, true, true, true, false, false, false] rfl rfl (take_ofW HT_.out HW_.out (by kernel_rfl)) (fun _ _ _ h => h) (Or.inl ⟨by rfl, ?_⟩) hHeld ?_ ?_
            rotate_left
            ·rintro w' ⟨s0, s1, s2, s3, s4, s5, s6⟩
             go_simp
             with_reducible rfl
            rotate_left
            ·simp only [Act.put, z1, z2, z3, i64_w, i32_w]
             rfl
            refine one_ (i := 14) (N := some 26) #[true, true, true, true, true, true, true, true, true, true, true, true, true, true, true, false, false] rfl rfl (one_of HT_.out (by kernel_rfl)) (by decide) (fun K hK => ?_)
            refine goes_ Try.func135 (by kernel_rfl) rfl #[.agg #[.string ((rd_T67 l0 x8_1).f0), .int .i64 ((rd_T67 l0 x8_1).f1), .int .i64 ((rd_T67 l0 x8_1).f2), .int .i64 ((rd_T67 l0 x8_1).f3), .int .i64 ((rd_T67 l0 x8_1).f4)], .int .i64 (rd x1_1 ((rd_T67 l0 x8_1).f2)), .int .i64 (rd x1_1 ((rd_T67 l0 x8_1).f3))] (by rfl) rfl rfl (by (try simp only [z6, z7, z8]); first | done | rfl | (simp only [z4, z5]; rfl)) ?_
            with_reducible refine (impl_Instr_word.calls k1 ((rd_T67 l0 x8_1).f0) ((rd_T67 l0 x8_1).f1) ((rd_T67 l0 x8_1).f2) ((rd_T67 l0 x8_1).f3) ((rd_T67 l0 x8_1).f4) (rd x1_1 ((rd_T67 l0 x8_1).f2)) (rd x1_1 ((rd_T67 l0 x8_1).f3)) t634 _ A10.out).mono ?_
            rintro e w19 ⟨rfl, hb⟩
            have HS5_ := (hb.cell (zW _ _ (hHeld.2.2.2.2.2.1))).trans (hHeld.2.2.2.2.2.1)
            have HS6_ := (hb.cell (zW _ _ (hHeld.2.2.2.2.2.2))).trans (hHeld.2.2.2.2.2.2)
            refine ⟨_, rfl, ?_⟩
            have n0_ := zK (Kd.R_below (by (with_reducible repeat (first | apply Kd.R_alloc | apply Kd.R_drewN | apply Kd.R_drew)); exact HO_1.out) hb)
            have n1_ := zK (zM (g := gb631) (o := .cells #[.string ((rd_T67 l0 x8_1).f0), .int .i64 ((rd_T67 l0 x8_1).f1), .int .i64 ((rd_T67 l0 x8_1).f2), .int .i64 ((rd_T67 l0 x8_1).f3), .int .i64 ((rd_T67 l0 x8_1).f4)] 67 (0, 0)) (by (with_reducible repeat (first | refine zE ?_ _ | refine zF ?_ | refine zG ?_ _)); exact BK631.out) hb)
            have n2_ := zK (Kept.below (S := (fun k_ => P1_ k_)) (by repeat (first | (with_reducible first | exact HK.out | apply Kept.alloc | apply Kept.drewN | apply Kept.drew | refine Kept.setCell ?_ (.inr GW631.out) _) | exact HK.out)) hb)
            have n3_ := zK (zL (by repeat (first | (with_reducible first | exact HB.out | apply zA | apply zB | apply zC | refine zD ?_ GE631.out) | exact HB.out)) hb)
            clear HO_1
            clear BK631
            clear HK
            clear HB
            have HO_1 := n0_
            have BK631 := n1_
            have HK := n2_
            have HB := n3_
            clear n0_ n1_ n2_ n3_
            (try clear hb)
            (try clear hb2)
            (try clear hk)
            (try clear hi)
            have p13 : 0 ≤ (((rd_T67 l0 x8_1).f1) : Int) := zo
            have q13 : (((rd_T67 l0 x8_1).f1) : Int) < ((x1_1.length : Int) : Int) := zo
            obtain ⟨go13, co13, eo13, gb13, gl13, cl13, HG13⟩ := Kd.R_form HO_1.out (by omega)
            (first | cases eo13 | (injection eo13 with ea_ en_ ec_; (first | subst ea_ | (injection ea_ with ea_; subst ea_)); subst ec_; clear en_))
            have GB13 := zK gb13
            have GG13 := zK HG13
            clear gb13 gl13 HG13
            have HMgo13 := zK (show (P1_ go13 ∨ w.heap.size ≤ go13) from (HO_1.out.1 _ rfl))
            (first | simp only [add_plain] at hx632_0 | skip)
            (first | simp only [add_plain] at hx633_0 | skip)
            obtain ⟨hx13_0, hf13_0⟩ := Kd.R_celln 0 HO_1.out (((rd_T67 l0 x8_1).f1) : Int) p13 q13
            replace p13 := eq_true p13
            replace q13 := eq_true q13
            have HP20 := Kd.R_putn HO_1.out (((rd_T67 l0 x8_1).f1) : Int) t634
            rw [← Ny635.out] at HP20
            have HQ20 := zK HP20
            clear HP20
            refine hK.out _ _ ⟨(zI BK631.out 0).trans rfl, (zI BK631.out 1).trans rfl, (zI BK631.out 2).trans rfl, (zI BK631.out 3).trans rfl, (zI BK631.out 4).trans rfl, HS5_, HS6_⟩ (fun hHeld => ?_)
            clear hK K
            refine norm_ (a' := ?_) ?_ ?_
            rotate_left
            ·show Act.put _ (some 26) _ = _
             simp only [Act.put, z1, z2, z3, i64_w, i32_w]
             rfl
            refine pure_ (i := 15) (N := some 27) (v := ?_) (a' := ?_) #[true, true, true, true, true, true, true, true, true, true, true, true, true, true, true, true, false] rfl rfl (any_of HT_.out (by kernel_rfl)) (fun _ _ _ h => h) (Or.inl ⟨by rfl, ?_⟩) ?_ ?_
            rotate_left
            ·intro w'
             go_simp
             with_reducible rfl
            rotate_left
            ·simp only [Act.put, z1, z2, z3, i64_w, i32_w]
             rfl
            refine last_ (i := 16) (N := none) #[true, true, true, true, true, true, true, true, true, true, true, true, true, true, true, true, true] rfl rfl (one_of HT_.out (by kernel_rfl)) (by decide) (fun K hK => ?_)
            refine skip_ (w1 := ?_) (by rfl) rfl ?_ ?_
            rotate_left
            ·go_simp
             rfl
            refine hK.out _ _ ?_
            clear hK K
            refine done_ (done_of HT_.out (by kernel_rfl)) ?_
            try go_wp2
            go_roundg k1
            case measure => have := HK1.out; omega
            case rel => exact ⟨(y635), (wrap64 (x8_1 + 1)), (by first | rfl | (simp; done) | (simp [*]; done)), H', ⟨by have := HK1.out; omega⟩, ⟨by (with_reducible repeat (first | apply Kd.R_alloc | apply Kd.R_drewN | apply Kd.R_drew)); exact HQ20.out⟩, ⟨by repeat (first | (with_reducible first | exact HK.out | apply Kept.alloc | apply Kept.drewN | apply Kept.drew | refine Kept.setCell ?_ HMgo13.out _ | refine Kept.setCell ?_ (.inr GW631.out) _) | exact HK.out)⟩, ⟨by repeat (first | (with_reducible first | exact HB.out | apply zA | apply zB | apply zC | refine zD ?_ GB13.out | refine zD ?_ GE631.out) | exact HB.out)⟩⟩
           ·rw [if_neg c12] at H
            exact absurd H (by simp)
          ·rw [if_neg c11] at H
           exact absurd H (by simp)
         ·rw [if_neg c9] at H
          exact absurd H (by simp)
        ·rw [if_neg c8] at H
         exact absurd H (by simp)
       ·rw [if_neg c7] at H
        exact absurd H (by simp)
      ·rw [if_neg c6] at H
       exact absurd H (by simp)
     ·rw [if_neg c5] at H
      exact absurd H (by simp)
    ·rw [if_neg c4] at H
     exact absurd H (by simp)
   ·rw [if_neg c3] at H
    have c3b0 : decide (x8_1 < (l0.length : Int)) = false := decide_eq_false c3
    clear c3
    obtain rfl := Option.some.inj H
    go_wp2
    first | go_end0 | ((try simp only [Exit.inBlock, Exit.then]); refine bodyPost_ret (results_none rfl _ _ _) rfl ?_)
    exact ⟨by first | rfl | (simp [errW_none, errW_some] <;> rfl) | (simp [*, errW_none, errW_some] <;> rfl), by (with_reducible repeat (first | apply Kd.R_alloc | apply Kd.R_drewN | apply Kd.R_drew)); exact HO_1.out, by repeat (first | (with_reducible first | exact HB.out | apply zA | apply zB | apply zC) | exact HB.out), by repeat (first | (with_reducible first | exact HK.out | apply Kept.alloc | apply Kept.drewN | apply Kept.drew) | exact HK.out)⟩

end Go.Proofs.Ytecmlikhmkcdpaa.G
