/- Contracts: impl_Instr_reads, slices_DeleteFunc_int_int_impl_Instr_before_c1, impl_Instr_before, bwiter, lifting, impl_liveSets, impl_LiveSets, laws_FnExactLiveSets. -/
import Derived.Test.YtecmlikhmkcdpaaGK
import Derived.Test.YtecmlikhmkcdpaaGLawsSzInstr
import Derived.Test.YtecmlikhmkcdpaaGLawsMarkInstrS
import Derived.Test.YtecmlikhmkcdpaaGImplFormOf
import Derived.Test.YtecmlikhmkcdpaaGImplIsCodeC1
import Derived.Test.YtecmlikhmkcdpaaGSpecLiveSets
import Derived.Deep.RegionWith
import Derived.Lib.RowBridge
import Derived.LoopIn
import Derived.LoopNIn
import Derived.OrdersIn
import Derived.OwnWalkIn
import Derived.RangeFuncBound
import Derived.RangeFuncCalls
import Derived.RangeFuncLeaves
import Derived.RangeFuncNested
import Derived.RegionIn
import Derived.Shelf.Abstract
import Derived.Shelf.RegionOpen
import Derived.TacticsInMore
import Derived.Test.YtecmlikhmkcdpaaDel
namespace Go.Proofs.Ytecmlikhmkcdpaa.G
open Go.RowKit Go.Proofs.YtecmlikhmkcdpaaW.PrintWords Go.Proofs.YtecmlikhmkcdpaaW.PrintLast Go.Proofs.YtecmlikhmkcdpaaW.PrintMore
attribute [local go_sem] max2_int min2_int max_two min_two max_three min_three max_four min_four   -- for this text's walks alone
set_option linter.unusedVariables false
set_option linter.unusedSimpArgs false

/-! ### impl_Instr_reads: function 155 -/
def impl_Instr_reads.j0 : Nat → List Int → ByteArray → Int → Int → Int → Int → Bool → Bool → Int → Int → Int → ByteArray → Option (List Int)
 | 0, _, _, _, _, _, _, _, _, _, _, _, _ => none
 | k + 1, x5, x454000, x454001, x454002, x454003, x454004, x462000, x462001, x462002, x462003, x462004, x462005 => if x462001 = true then (if x5.length < 17592186044416 then ((slices_Sort_int_int.f k (x5 ++ [x454003])).bind fun t471 => ((slices_Compact_int_int.f k t471).bind fun t472 => (some t472))) else (none)) else ((slices_Sort_int_int.f k x5).bind fun t475 => ((slices_Compact_int_int.f k t475).bind fun t476 => (some t476)))
def impl_Instr_reads.f (k : Nat) (a0_0 : ByteArray) (a0_1 : Int) (a0_2 : Int) (a0_3 : Int) (a0_4 : Int) : Option (List Int) := (impl_formOf.f k a0_0).bind fun bt454 => ((some (([] : List Int) : List Int)).bind fun y462 => (if bt454.1 = true then (if y462.length < 17592186044416 then (impl_Instr_reads.j0 k (y462 ++ [a0_2]) a0_0 a0_1 a0_2 a0_3 a0_4 bt454.1 bt454.2.1 bt454.2.2.1 bt454.2.2.2.1 bt454.2.2.2.2.1 bt454.2.2.2.2.2.1) else (none)) else (impl_Instr_reads.j0 k y462 a0_0 a0_1 a0_2 a0_3 a0_4 bt454.1 bt454.2.1 bt454.2.2.1 bt454.2.2.2.1 bt454.2.2.2.2.1 bt454.2.2.2.2.2.1)))
theorem impl_Instr_reads.mono_l : ∀ k, (∀ y0 y1 y2 y3 y4 y5 y6 y7 y8 y9 y10 y11, LeO (impl_Instr_reads.j0 k y0 y1 y2 y3 y4 y5 y6 y7 y8 y9 y10 y11) (impl_Instr_reads.j0 (k + 1) y0 y1 y2 y3 y4 y5 y6 y7 y8 y9 y10 y11))
 | 0 => fun _ _ _ _ _ _ _ _ _ _ _ _ r h => by simp [impl_Instr_reads.j0] at h
 | k + 1 => by
  have ih0 := impl_Instr_reads.mono_l k
  ·intro y0 y1 y2 y3 y4 y5 y6 y7 y8 y9 y10 y11
   unfold impl_Instr_reads.j0
   repeat' first
   | (with_reducible exact ih0 _ _ _ _ _ _ _ _ _ _ _ _)
   | (with_reducible exact impl_formOf.mono _ _)
   | (with_reducible exact slices_Compact_int_int.mono _ _)
   | (with_reducible exact slices_Sort_int_int.mono _ _)
   | (with_reducible exact LeO.refl _)
   | (with_reducible exact LeO.none _)
   | (with_reducible refine LeO.ite ?_ ?_)
   | (with_reducible refine LeO.bind ?_ (fun _ => ?_))
   | exact ih0 _ _ _ _ _ _ _ _ _ _ _ _
   | exact impl_formOf.mono _ _
   | exact slices_Compact_int_int.mono _ _
   | exact slices_Sort_int_int.mono _ _
   | exact LeO.none _
   | refine LeO.ite ?_ ?_
   | refine LeO.bind ?_ (fun _ => ?_)
theorem impl_Instr_reads.mono : ∀ a0 a1 a2 a3 a4 k, LeO (impl_Instr_reads.f k a0 a1 a2 a3 a4) (impl_Instr_reads.f (k + 1) a0 a1 a2 a3 a4) := by
 intro a0 a1 a2 a3 a4 k
 have ih0 := impl_Instr_reads.mono_l k
 unfold impl_Instr_reads.f
 repeat' first
   | (with_reducible exact ih0 _ _ _ _ _ _ _ _ _ _ _ _)
   | (with_reducible exact impl_formOf.mono _ _)
   | (with_reducible exact slices_Compact_int_int.mono _ _)
   | (with_reducible exact slices_Sort_int_int.mono _ _)
   | (with_reducible exact LeO.refl _)
   | (with_reducible exact LeO.none _)
   | (with_reducible refine LeO.ite ?_ ?_)
   | (with_reducible refine LeO.bind ?_ (fun _ => ?_))
   | exact ih0 _ _ _ _ _ _ _ _ _ _ _ _
   | exact impl_formOf.mono _ _
   | exact slices_Compact_int_int.mono _ _
   | exact slices_Sort_int_int.mono _ _
   | exact LeO.none _
   | refine LeO.ite ?_ ?_
   | refine LeO.bind ?_ (fun _ => ?_)
set_option maxHeartbeats 16000000 in
set_option maxRecDepth 100000 in
theorem impl_Instr_reads.calls (k : Nat) (a0_0 : ByteArray) (a0_1 : Int) (a0_2 : Int) (a0_3 : Int) (a0_4 : Int) (r : List Int) (w : World) (h : impl_Instr_reads.f k a0_0 a0_1 a0_2 a0_3 a0_4 = some r) :
  Calls Try.prog 155 #[.agg #[.string a0_0, .int .i64 a0_1, .int .i64 a0_2, .int .i64 a0_3, .int .i64 a0_4]] w fun e w' => ∃ v0_ : Value, e = .returned (v0_) ∧ Kd.R (Kd.int .i64) 3 w' w.heap.size (fun _ => True) v0_ r ∧ Below w.heap.size w w' := by
 have hu67 := Try.underlying67
 have hu96 := Try.underlying96
 have HB := zK (Below.refl w.heap.size w)
 have H : ((impl_formOf.f k a0_0).bind fun bt454 => ((some (([] : List Int) : List Int)).bind fun y462 => (if bt454.1 = true then (if y462.length < 17592186044416 then (impl_Instr_reads.j0 k (y462 ++ [a0_2]) a0_0 a0_1 a0_2 a0_3 a0_4 bt454.1 bt454.2.1 bt454.2.2.1 bt454.2.2.2.1 bt454.2.2.2.2.1 bt454.2.2.2.2.2.1) else (none)) else (impl_Instr_reads.j0 k y462 a0_0 a0_1 a0_2 a0_3 a0_4 bt454.1 bt454.2.1 bt454.2.2.1 bt454.2.2.2.1 bt454.2.2.2.2.1 bt454.2.2.2.2.2.1)))) = some r := h
 clear h
 replace H := Option.bind_eq_some_iff.mp H
 obtain ⟨⟨t454, t455, t456, t457, t458, t459, t460⟩, A20, H⟩ := H
 replace H : ((some (([] : List Int) : List Int)).bind fun y462 => (if t454 = true then (if y462.length < 17592186044416 then (impl_Instr_reads.j0 k (y462 ++ [a0_2]) a0_0 a0_1 a0_2 a0_3 a0_4 t454 t455 t456 t457 t458 t459) else (none)) else (impl_Instr_reads.j0 k y462 a0_0 a0_1 a0_2 a0_3 a0_4 t454 t455 t456 t457 t458 t459))) = some r := H
 have A2 := zK A20
 clear A20
 obtain ⟨y462, hy462⟩ : ∃ y_ : List Int, y_ = (([] : List Int)) := ⟨_, rfl⟩
 replace H : (if t454 = true then (if y462.length < 17592186044416 then (impl_Instr_reads.j0 k (y462 ++ [a0_2]) a0_0 a0_1 a0_2 a0_3 a0_4 t454 t455 t456 t457 t458 t459) else (none)) else (impl_Instr_reads.j0 k y462 a0_0 a0_1 a0_2 a0_3 a0_4 t454 t455 t456 t457 t458 t459)) = some r := by first | (rw [hy462]; with_reducible exact H) | (have H2_ := (Option.bind_some _ _).symm.trans H; rw [hy462]; with_reducible exact H2_) | (have H2_ := (Option.bind_some _ _).symm.trans H; with_reducible exact H2_) | with_reducible exact H | (rw [hy462]; exact H) | exact H
 have Ny462 := zK hy462
 clear hy462
 have HC3 := zK H
 clear H
 go_enter Try.func155, Try.ntmps155
 go_upto_if 14 with (first | ((with_reducible refine gate_dst (N := 1) rfl ?_); refine box_event ?hg (N := 1) ?hd (cs := #[.string a0_0, .int .i64 a0_1, .int .i64 a0_2, .int .i64 a0_3, .int .i64 a0_4]) (t := 67) ?hr ?_; (case hd => rfl); (case hg => rfl); (case hr => first | (go_simp; done) | (go_simp; rfl)); intro gb453 hg w4 hbox hb; have n0_ := zK (zL (by repeat (first | (with_reducible first | exact HB.out | apply zA | apply zB | apply zC) | exact HB.out)) hb); have n1_ := zK (hbox); have n2_ := zK ((by rw [hg]; exact (zN (by repeat (first | (with_reducible first | exact HB.out | apply zA | apply zB | apply zC) | exact HB.out))) : w.heap.size ≤ gb453)); have n3_ := n2_; clear HB; have HB := n0_; have BK453 := n1_; have GW453 := n2_; have GE453 := n3_; clear n0_ n1_ n2_ n3_; clear hb hbox hg; have hcz5_0 : w4.cell? ⟨gb453, 0, none⟩ = some (.string a0_0) := (zI BK453.out 0).trans rfl; have hcz5_1 : w4.cell? ⟨gb453, 1, none⟩ = some (.int .i64 a0_1) := (zI BK453.out 1).trans rfl; have hcz5_2 : w4.cell? ⟨gb453, 2, none⟩ = some (.int .i64 a0_2) := (zI BK453.out 2).trans rfl; have hcz5_3 : w4.cell? ⟨gb453, 3, none⟩ = some (.int .i64 a0_3) := (zI BK453.out 3).trans rfl; have hcz5_4 : w4.cell? ⟨gb453, 4, none⟩ = some (.int .i64 a0_4) := (zI BK453.out 4).trans rfl; have hfz5_0 := zH BK453.out 0; have hfz5_1 := zH BK453.out 1; have hfz5_2 := zH BK453.out 2; have hfz5_3 := zH BK453.out 3; have hfz5_4 := zH BK453.out 4) | ((with_reducible refine gate_callee (f := 96) rfl ?_); refine goesL_ (some 9) rfl rfl Try.func96 (by kernel_rfl) rfl #[.string a0_0] rfl (by (try simp only [z6, z7, z8]); first | done | rfl | (simp only [z4, z5]; rfl)) ?_; (with_reducible refine (impl_formOf.calls k a0_0 t454 t455 t456 t457 t458 t459 t460 _ A2.out).mono ?_); rintro e w6 ⟨rfl, hb⟩; refine ⟨_, rfl, ?_⟩; have n0_ := zK (zM (g := gb453) (o := .cells #[.string a0_0, .int .i64 a0_1, .int .i64 a0_2, .int .i64 a0_3, .int .i64 a0_4] 67 (0, 0)) (by (with_reducible repeat (first | refine zE ?_ _ | refine zF ?_ | refine zG ?_ _)); exact BK453.out) hb); have n1_ := zK (zL (by repeat (first | (with_reducible first | exact HB.out | apply zA | apply zB | apply zC | refine zD ?_ GE453.out) | exact HB.out)) hb); clear BK453; clear HB; have BK453 := n0_; have HB := n1_; clear n0_ n1_; (try clear hb); (try clear hb2); (try clear hk); (try clear hi)) | ((with_reducible refine gate_dst (N := 3) rfl ?_); refine box_event ?hg (N := 3) ?hd (cs := #[.bool false, .bool false, .int .i64 0, .int .i64 0, .int .i64 0, .string (⟨#[]⟩ : ByteArray)]) (t := 96) ?hr ?_; (case hd => rfl); (case hg => rfl); (case hr => first | (go_simp; done) | (go_simp; rfl)); intro gb461 hg w7 hbox hb; have n0_ := zK (zM (g := gb453) (o := .cells #[.string a0_0, .int .i64 a0_1, .int .i64 a0_2, .int .i64 a0_3, .int .i64 a0_4] 67 (0, 0)) (by (with_reducible repeat (first | refine zE ?_ _ | refine zF ?_ | refine zG ?_ _)); exact BK453.out) hb); have n1_ := zK (zL (by repeat (first | (with_reducible first | exact HB.out | apply zA | apply zB | apply zC | refine zD ?_ GE453.out) | exact HB.out)) hb); have n2_ := zK (hbox); have n3_ := zK ((by rw [hg]; exact (zN (by repeat (first | (with_reducible first | exact HB.out | apply zA | apply zB | apply zC | refine zD ?_ GE453.out) | exact HB.out))) : w.heap.size ≤ gb461)); have n4_ := n3_; have n5_ := zK ((by rw [hg]; exact Nat.ne_of_lt (blk_lt (g := gb453) (o := .cells #[.string a0_0, .int .i64 a0_1, .int .i64 a0_2, .int .i64 a0_3, .int .i64 a0_4] 67 (0, 0)) (by (with_reducible repeat (first | refine zE ?_ _ | refine zF ?_ | refine zG ?_ _)); exact BK453.out)) : gb453 ≠ gb461)); have n6_ := zK n5_.out.symm; clear BK453; clear HB; have BK453 := n0_; have HB := n1_; have BK461 := n2_; have GW461 := n3_; have GE461 := n4_; have NB453_461 := n5_; have NB461_453 := n6_; clear n0_ n1_ n2_ n3_ n4_ n5_ n6_; clear hb hbox hg; have hnb8 := NB461_453.out; have hnc8 := NB453_461.out; have hcz9_0 : w7.cell? ⟨gb461, 0, none⟩ = some (.bool false) := (zI BK461.out 0).trans rfl; have hcz9_1 : w7.cell? ⟨gb461, 1, none⟩ = some (.bool false) := (zI BK461.out 1).trans rfl; have hcz9_2 : w7.cell? ⟨gb461, 2, none⟩ = some (.int .i64 0) := (zI BK461.out 2).trans rfl; have hcz9_3 : w7.cell? ⟨gb461, 3, none⟩ = some (.int .i64 0) := (zI BK461.out 3).trans rfl; have hcz9_4 : w7.cell? ⟨gb461, 4, none⟩ = some (.int .i64 0) := (zI BK461.out 4).trans rfl; have hcz9_5 : w7.cell? ⟨gb461, 5, none⟩ = some (.string (⟨#[]⟩ : ByteArray)) := (zI BK461.out 5).trans rfl; have hfz9_0 := zH BK461.out 0; have hfz9_1 := zH BK461.out 1; have hfz9_2 := zH BK461.out 2; have hfz9_3 := zH BK461.out 3; have hfz9_4 := zH BK461.out 4; have hfz9_5 := zH BK461.out 5) | ((with_reducible refine gate_dst (N := 12) rfl ?_); refine Kd.R_lit (Kd.int .i64) _ 3 ?hg (N := 12) ?hd (xs := ([] : List Int)) (inner := []) (ok := fun _ => True) (okp := fun _ => True) ?hr ?hp (fun _ hk => hk) trivial (Below.refl _ _) (Nat.le_refl _) (by simp) ?_; (case hd => rfl); (case hg => rfl); (case hr => first | (go_simp; done) | (go_simp; rfl)); (case hp => exact (Reps.none _ _)); intro v463 w10 ho11 hb hg_ hnew_; clear hg_ hnew_; (first | rw [← Ny462.out] at ho11 | (simp only [Int.reduceToNat] at ho11; rw [← Ny462.out] at ho11)); have n0_ := zK (Kd.R_lower ho11 (zN (by repeat (first | (with_reducible first | exact HB.out | apply zA | apply zB | apply zC | refine zD ?_ GE453.out | refine zD ?_ GE461.out) | exact HB.out)))); have n1_ := zK (zM (g := gb453) (o := .cells #[.string a0_0, .int .i64 a0_1, .int .i64 a0_2, .int .i64 a0_3, .int .i64 a0_4] 67 (0, 0)) (by (with_reducible repeat (first | refine zE ?_ _ | refine zF ?_ | refine zG ?_ _)); refine blk_far ?_ NB453_461.out _; (with_reducible repeat (first | refine zE ?_ _ | refine zF ?_ | refine zG ?_ _)); refine blk_far ?_ NB453_461.out _; (with_reducible repeat (first | refine zE ?_ _ | refine zF ?_ | refine zG ?_ _)); refine blk_far ?_ NB453_461.out _; (with_reducible repeat (first | refine zE ?_ _ | refine zF ?_ | refine zG ?_ _)); refine blk_far ?_ NB453_461.out _; (with_reducible repeat (first | refine zE ?_ _ | refine zF ?_ | refine zG ?_ _)); refine blk_far ?_ NB453_461.out _; (with_reducible repeat (first | refine zE ?_ _ | refine zF ?_ | refine zG ?_ _)); refine blk_far ?_ NB453_461.out _; (with_reducible repeat (first | refine zE ?_ _ | refine zF ?_ | refine zG ?_ _)); exact BK453.out) hb); have n2_ := zK (zM (g := gb461) (o := .cells #[.bool t454, .bool t455, .int .i64 t456, .int .i64 t457, .int .i64 t458, .string t459] 96 (0, 0)) (by (with_reducible repeat (first | refine zE ?_ _ | refine zF ?_ | refine zG ?_ _)); refine blk_put (cs := #[.bool t454, .bool t455, .int .i64 t456, .int .i64 t457, .int .i64 t458, .string (⟨#[]⟩ : ByteArray)]) ?_ 5 _ rfl; (with_reducible repeat (first | refine zE ?_ _ | refine zF ?_ | refine zG ?_ _)); refine blk_put (cs := #[.bool t454, .bool t455, .int .i64 t456, .int .i64 t457, .int .i64 0, .string (⟨#[]⟩ : ByteArray)]) ?_ 4 _ rfl; (with_reducible repeat (first | refine zE ?_ _ | refine zF ?_ | refine zG ?_ _)); refine blk_put (cs := #[.bool t454, .bool t455, .int .i64 t456, .int .i64 0, .int .i64 0, .string (⟨#[]⟩ : ByteArray)]) ?_ 3 _ rfl; (with_reducible repeat (first | refine zE ?_ _ | refine zF ?_ | refine zG ?_ _)); refine blk_put (cs := #[.bool t454, .bool t455, .int .i64 0, .int .i64 0, .int .i64 0, .string (⟨#[]⟩ : ByteArray)]) ?_ 2 _ rfl; (with_reducible repeat (first | refine zE ?_ _ | refine zF ?_ | refine zG ?_ _)); refine blk_put (cs := #[.bool t454, .bool false, .int .i64 0, .int .i64 0, .int .i64 0, .string (⟨#[]⟩ : ByteArray)]) ?_ 1 _ rfl; (with_reducible repeat (first | refine zE ?_ _ | refine zF ?_ | refine zG ?_ _)); refine blk_put (cs := #[.bool false, .bool false, .int .i64 0, .int .i64 0, .int .i64 0, .string (⟨#[]⟩ : ByteArray)]) ?_ 0 _ rfl; (with_reducible repeat (first | refine zE ?_ _ | refine zF ?_ | refine zG ?_ _)); exact BK461.out) hb); have n3_ := zK (zL (by repeat (first | (with_reducible first | exact HB.out | apply zA | apply zB | apply zC | refine zD ?_ GE453.out | refine zD ?_ GE461.out) | exact HB.out)) hb); clear BK453; clear BK461; clear HB; have HO464 := n0_; have BK453 := n1_; have BK461 := n2_; have HB := n3_; clear n0_ n1_ n2_ n3_; clear hb ho11; have hcz12_0 : w10.cell? ⟨gb461, 0, none⟩ = some (.bool t454) := (zI BK461.out 0).trans rfl; have hcz12_1 : w10.cell? ⟨gb461, 1, none⟩ = some (.bool t455) := (zI BK461.out 1).trans rfl; have hcz12_2 : w10.cell? ⟨gb461, 2, none⟩ = some (.int .i64 t456) := (zI BK461.out 2).trans rfl; have hcz12_3 : w10.cell? ⟨gb461, 3, none⟩ = some (.int .i64 t457) := (zI BK461.out 3).trans rfl; have hcz12_4 : w10.cell? ⟨gb461, 4, none⟩ = some (.int .i64 t458) := (zI BK461.out 4).trans rfl; have hcz12_5 : w10.cell? ⟨gb461, 5, none⟩ = some (.string t459) := (zI BK461.out 5).trans rfl; have hfz12_0 := zH BK461.out 0; have hfz12_1 := zH BK461.out 1; have hfz12_2 := zH BK461.out 2; have hfz12_3 := zH BK461.out 3; have hfz12_4 := zH BK461.out 4; have hfz12_5 := zH BK461.out 5))
 (try simp only [Act.put, z1, z2, z3])
 go_cut [5] (fun v5 wc => ∃ (kq : Nat) (x5_2 : List Int), Aside0 (impl_Instr_reads.j0 kq x5_2 a0_0 a0_1 a0_2 a0_3 a0_4 t454 t455 t456 t457 t458 t459 = some r) ∧ Aside0 (kq ≤ k) ∧ Aside0 (Kd.R (Kd.int .i64) 3 wc w.heap.size (fun _ => True) v5 x5_2) ∧ Aside0 (wc.heap[gb453]? = some (.cells #[.string a0_0, .int .i64 a0_1, .int .i64 a0_2, .int .i64 a0_3, .int .i64 a0_4] 67 (0, 0))) ∧ Aside0 (wc.heap[gb461]? = some (.cells #[.bool t454, .bool t455, .int .i64 t456, .int .i64 t457, .int .i64 t458, .string t459] 96 (0, 0))) ∧ Aside0 (Below w.heap.size w wc))
 case first =>
  have H := HC3.out
  clear HC3
  by_cases c13 : t454 = true
  ·subst c13
   rw [if_pos rfl] at H
   by_cases c14 : y462.length < 17592186044416
   ·rw [if_pos c14] at H
    have LMc14 := zK c14
    clear c14
    obtain ⟨y465, hy465⟩ : ∃ y_ : List Int, y_ = (y462 ++ [a0_2]) := ⟨_, rfl⟩
    replace H : (impl_Instr_reads.j0 k y465 a0_0 a0_1 a0_2 a0_3 a0_4 true t455 t456 t457 t458 t459) = some r := by first | (rw [hy465]; with_reducible exact H) | (have H2_ := (Option.bind_some _ _).symm.trans H; rw [hy465]; with_reducible exact H2_) | (have H2_ := (Option.bind_some _ _).symm.trans H; with_reducible exact H2_) | with_reducible exact H | (rw [hy465]; exact H) | exact H
    have Ny465 := zK hy465
    clear hy465
    have H' := zK H
    clear H
    have hnb15 := NB453_461.out
    have hnc15 := NB461_453.out
    have hcz16_0 : w10.cell? ⟨gb453, 0, none⟩ = some (.string a0_0) := (zI BK453.out 0).trans rfl
    have hcz16_1 : w10.cell? ⟨gb453, 1, none⟩ = some (.int .i64 a0_1) := (zI BK453.out 1).trans rfl
    have hcz16_2 : w10.cell? ⟨gb453, 2, none⟩ = some (.int .i64 a0_2) := (zI BK453.out 2).trans rfl
    have hcz16_3 : w10.cell? ⟨gb453, 3, none⟩ = some (.int .i64 a0_3) := (zI BK453.out 3).trans rfl
    have hcz16_4 : w10.cell? ⟨gb453, 4, none⟩ = some (.int .i64 a0_4) := (zI BK453.out 4).trans rfl
    have hfz16_0 := zH BK453.out 0
    have hfz16_1 := zH BK453.out 1
    have hfz16_2 := zH BK453.out 2
    have hfz16_3 := zH BK453.out 3
    have hfz16_4 := zH BK453.out 4
    go_wp2_with (first | ((with_reducible refine gate_builtin (b := .append) (xs := #[.tmp 15, .tmp 18]) rfl ?_); at_builtin; refine Kd.R_append (Kd.int .i64) (w0 := w) w.heap.size rfl (.tmp 15) (.tmp 18) 40 3 (.int .i64 0) 8 rfl Try.underlying40 info3 rfl (by decide) (by omega) v463 y462 a0_2 [.int .i64 a0_2] (fun _ => True) (fun _ => False) rfl rfl ?aP (fun _ hk => hk.elim) ?aF ?aO ?aB ?aS ?aL ?_; (case aP => exact rfl); (case aB => exact (by repeat (first | (with_reducible first | exact HB.out | apply zA | apply zB | apply zC | refine zD ?_ GE453.out | refine zD ?_ GE461.out) | exact HB.out))); (case aF => exact (fun _ _ => trivial)); (case aO => exact (by (with_reducible repeat (first | apply Kd.R_alloc | apply Kd.R_drewN | apply Kd.R_drew)); exact HO464.out)); (case aS => exact (zN (by repeat (first | (with_reducible first | exact HB.out | apply zA | apply zB | apply zC | refine zD ?_ GE453.out | refine zD ?_ GE461.out) | exact HB.out)))); (case aL => have := LMc14.out; omega); intro v466 w17 ho hb hg hat; rw [← Ny465.out] at ho; have n0_ := zK (blk_grown (g := gb453) (o := .cells #[.string a0_0, .int .i64 a0_1, .int .i64 a0_2, .int .i64 a0_3, .int .i64 a0_4] 67 (0, 0)) (by (with_reducible repeat (first | refine zE ?_ _ | refine zF ?_ | refine zG ?_ _)); exact BK453.out) hg (Kd.R_ne HO464.out BK453.out (by decide))); have n1_ := zK (blk_grown (g := gb461) (o := .cells #[.bool true, .bool t455, .int .i64 t456, .int .i64 t457, .int .i64 t458, .string t459] 96 (0, 0)) (by (with_reducible repeat (first | refine zE ?_ _ | refine zF ?_ | refine zG ?_ _)); exact BK461.out) hg (Kd.R_ne HO464.out BK461.out (by decide))); have n2_ := zK (hb); have n3_ := zK (ho); clear BK453; clear BK461; clear HB; clear HO464; have BK453 := n0_; have BK461 := n1_; have HB := n2_; have HO467 := n3_; clear n0_ n1_ n2_ n3_; clear ho hb hg hat))
    go_meet
    case rel => exact ⟨_, (y465), H', ⟨by first | omega | exact Nat.le_refl _⟩, ⟨by (with_reducible repeat (first | apply Kd.R_alloc | apply Kd.R_drewN | apply Kd.R_drew)); exact HO467.out⟩, ⟨by (with_reducible repeat (first | refine zE ?_ _ | refine zF ?_ | refine zG ?_ _)); exact BK453.out⟩, ⟨by (with_reducible repeat (first | refine zE ?_ _ | refine zF ?_ | refine zG ?_ _)); exact BK461.out⟩, ⟨by repeat (first | (with_reducible first | exact HB.out | apply zA | apply zB | apply zC | refine zD ?_ GE453.out | refine zD ?_ GE461.out) | exact HB.out)⟩⟩
   ·rw [if_neg c14] at H
    exact absurd H (by simp)
  ·replace c13 := Bool.eq_false_iff.mpr c13
   subst c13
   rw [if_neg (show ¬ (false = true) by decide)] at H
   have H' := zK H
   clear H
   go_wp2
   go_meet
   case rel => exact ⟨_, (y462), H', ⟨by first | omega | exact Nat.le_refl _⟩, ⟨by (with_reducible repeat (first | apply Kd.R_alloc | apply Kd.R_drewN | apply Kd.R_drew)); exact HO464.out⟩, ⟨by (with_reducible repeat (first | refine zE ?_ _ | refine zF ?_ | refine zG ?_ _)); exact BK453.out⟩, ⟨by (with_reducible repeat (first | refine zE ?_ _ | refine zF ?_ | refine zG ?_ _)); exact BK461.out⟩, ⟨by repeat (first | (with_reducible first | exact HB.out | apply zA | apply zB | apply zC | refine zD ?_ GE453.out | refine zD ?_ GE461.out) | exact HB.out)⟩⟩
 case rest =>
  clear HC3
  try clear c1
  try clear p2
  try clear c8
  try clear c9
  try clear c13
  try clear c14
  try clear c15
  try clear hcz12_0
  try clear hcz12_1
  try clear hcz12_2
  try clear hcz12_3
  try clear hcz12_4
  try clear hcz12_5
  try clear hcz16_0
  try clear hcz16_1
  try clear hcz16_2
  try clear hcz16_3
  try clear hcz16_4
  try clear hcz5_0
  try clear hcz5_1
  try clear hcz5_2
  try clear hcz5_3
  try clear hcz5_4
  try clear hcz9_0
  try clear hcz9_1
  try clear hcz9_2
  try clear hcz9_3
  try clear hcz9_4
  try clear hcz9_5
  try clear hfz12_0
  try clear hfz12_1
  try clear hfz12_2
  try clear hfz12_3
  try clear hfz12_4
  try clear hfz12_5
  try clear hfz16_0
  try clear hfz16_1
  try clear hfz16_2
  try clear hfz16_3
  try clear hfz16_4
  try clear hfz5_0
  try clear hfz5_1
  try clear hfz5_2
  try clear hfz5_3
  try clear hfz5_4
  try clear hfz9_0
  try clear hfz9_1
  try clear hfz9_2
  try clear hfz9_3
  try clear hfz9_4
  try clear hfz9_5
  obtain ⟨kq, x5_2, HA, HJ2, HO_5, BK453, BK461, HB⟩ := hcut
  cases kq with
  | zero => exact absurd HA.out (by simp [impl_Instr_reads.j0])
  | succ kj2 =>
   have H := HA.out
   clear HA
   simp only [impl_Instr_reads.j0] at H
   by_cases c18 : t455 = true
   ·subst c18
    rw [if_pos rfl] at H
    by_cases c19 : x5_2.length < 17592186044416
    ·rw [if_pos c19] at H
     have LMc19 := zK c19
     clear c19
     obtain ⟨y468, hy468⟩ : ∃ y_ : List Int, y_ = (x5_2 ++ [a0_3]) := ⟨_, rfl⟩
     replace H : ((slices_Sort_int_int.f kj2 y468).bind fun t471 => ((slices_Compact_int_int.f kj2 t471).bind fun t472 => (some t472))) = some r := by first | (rw [hy468]; with_reducible exact H) | (have H2_ := (Option.bind_some _ _).symm.trans H; rw [hy468]; with_reducible exact H2_) | (have H2_ := (Option.bind_some _ _).symm.trans H; with_reducible exact H2_) | with_reducible exact H | (rw [hy468]; exact H) | exact H
     have Ny468 := zK hy468
     clear hy468
     replace H := Option.bind_eq_some_iff.mp H
     obtain ⟨t471, A200, H⟩ := H
     replace H : ((slices_Compact_int_int.f kj2 t471).bind fun t472 => (some t472)) = some r := H
     have A20 := zK A200
     clear A200
     replace H := Option.bind_eq_some_iff.mp H
     obtain ⟨t472, A210, H⟩ := H
     replace H : (some t472) = some r := H
     have A21 := zK A210
     clear A210
     obtain rfl := Option.some.inj H
     have hnb22 := NB461_453.out
     have hnc22 := NB453_461.out
     have hcz23_0 : wc.cell? ⟨gb461, 0, none⟩ = some (.bool t454) := (zI BK461.out 0).trans rfl
     have hcz23_1 : wc.cell? ⟨gb461, 1, none⟩ = some (.bool true) := (zI BK461.out 1).trans rfl
     have hcz23_2 : wc.cell? ⟨gb461, 2, none⟩ = some (.int .i64 t456) := (zI BK461.out 2).trans rfl
     have hcz23_3 : wc.cell? ⟨gb461, 3, none⟩ = some (.int .i64 t457) := (zI BK461.out 3).trans rfl
     have hcz23_4 : wc.cell? ⟨gb461, 4, none⟩ = some (.int .i64 t458) := (zI BK461.out 4).trans rfl
     have hcz23_5 : wc.cell? ⟨gb461, 5, none⟩ = some (.string t459) := (zI BK461.out 5).trans rfl
     have hfz23_0 := zH BK461.out 0
     have hfz23_1 := zH BK461.out 1
     have hfz23_2 := zH BK461.out 2
     have hfz23_3 := zH BK461.out 3
     have hfz23_4 := zH BK461.out 4
     have hfz23_5 := zH BK461.out 5
     have hcz24_0 : wc.cell? ⟨gb453, 0, none⟩ = some (.string a0_0) := (zI BK453.out 0).trans rfl
     have hcz24_1 : wc.cell? ⟨gb453, 1, none⟩ = some (.int .i64 a0_1) := (zI BK453.out 1).trans rfl
     have hcz24_2 : wc.cell? ⟨gb453, 2, none⟩ = some (.int .i64 a0_2) := (zI BK453.out 2).trans rfl
     have hcz24_3 : wc.cell? ⟨gb453, 3, none⟩ = some (.int .i64 a0_3) := (zI BK453.out 3).trans rfl
     have hcz24_4 : wc.cell? ⟨gb453, 4, none⟩ = some (.int .i64 a0_4) := (zI BK453.out 4).trans rfl
     have hfz24_0 := zH BK453.out 0
     have hfz24_1 := zH BK453.out 1
     have hfz24_2 := zH BK453.out 2
     have hfz24_3 := zH BK453.out 3
     have hfz24_4 := zH BK453.out 4
     go_wp2_with (first | ((with_reducible refine gate_builtin (b := .append) (xs := #[.tmp 22, .tmp 25]) rfl ?_); at_builtin; refine Kd.R_append (Kd.int .i64) (w0 := w) w.heap.size rfl (.tmp 22) (.tmp 25) 40 3 (.int .i64 0) 8 rfl Try.underlying40 info3 rfl (by decide) (by omega) u5 x5_2 a0_3 [.int .i64 a0_3] (fun _ => True) (fun _ => False) rfl rfl ?aP (fun _ hk => hk.elim) ?aF ?aO ?aB ?aS ?aL ?_; (case aP => exact rfl); (case aB => exact (by repeat (first | (with_reducible first | exact HB.out | apply zA | apply zB | apply zC | refine zD ?_ GE453.out | refine zD ?_ GE461.out) | exact HB.out))); (case aF => exact (fun _ _ => trivial)); (case aO => exact (by (with_reducible repeat (first | apply Kd.R_alloc | apply Kd.R_drewN | apply Kd.R_drew)); exact HO_5.out)); (case aS => exact (zN (by repeat (first | (with_reducible first | exact HB.out | apply zA | apply zB | apply zC | refine zD ?_ GE453.out | refine zD ?_ GE461.out) | exact HB.out)))); (case aL => have := LMc19.out; omega); intro v469 w25 ho hb hg hat; rw [← Ny468.out] at ho; have n0_ := zK (blk_grown (g := gb453) (o := .cells #[.string a0_0, .int .i64 a0_1, .int .i64 a0_2, .int .i64 a0_3, .int .i64 a0_4] 67 (0, 0)) (by (with_reducible repeat (first | refine zE ?_ _ | refine zF ?_ | refine zG ?_ _)); exact BK453.out) hg (Kd.R_ne HO_5.out BK453.out (by decide))); have n1_ := zK (blk_grown (g := gb461) (o := .cells #[.bool t454, .bool true, .int .i64 t456, .int .i64 t457, .int .i64 t458, .string t459] 96 (0, 0)) (by (with_reducible repeat (first | refine zE ?_ _ | refine zF ?_ | refine zG ?_ _)); exact BK461.out) hg (Kd.R_ne HO_5.out BK461.out (by decide))); have n2_ := zK (hb); have n3_ := zK (ho); clear BK453; clear BK461; clear HB; clear HO_5; have BK453 := n0_; have BK461 := n1_; have HB := n2_; have HO470 := n3_; clear n0_ n1_ n2_ n3_; clear ho hb hg hat; obtain ⟨Ao26, co26, eo26⟩ := Kd.R_slice HO470.out; subst eo26) | ((with_reducible refine gate_callee (f := 93) rfl ?_); refine goesL_ (some 28) rfl rfl Try.func93 (by kernel_rfl) rfl #[.slice Ao26 y468.length co26] rfl (by (try simp only [z6, z7, z8]); first | done | rfl | (simp only [z4, z5]; rfl)) ?_; (with_reducible refine (slices_Sort_int_int.calls kj2 (fun k_ => some k_ = (.slice Ao26 y468.length co26 : Value).ownBlock) (.slice Ao26 y468.length co26) y468 t471 w _ ?side1 ?side2 A20.out).mono ?_); (case side1 => repeat (first | (with_reducible first | exact HB.out | apply zA | apply zB | apply zC | refine zD ?_ GE453.out | refine zD ?_ GE461.out) | exact HB.out)); (case side2 => exact Kd.R_tight rfl HO470.out); rintro e w27 ⟨rfl, hy0, hb, hkp⟩; refine ⟨_, rfl, ?_⟩; have n0_ := zK (blk_kept (by (with_reducible repeat (first | refine zE ?_ _ | refine zF ?_ | refine zG ?_ _)); exact BK453.out) hkp (fun hs_ => (fun e_ => (Kd.R_ne HO470.out BK453.out (by decide)) e_) hs_)); have n1_ := zK (blk_kept (by (with_reducible repeat (first | refine zE ?_ _ | refine zF ?_ | refine zG ?_ _)); exact BK461.out) hkp (fun hs_ => (fun e_ => (Kd.R_ne HO470.out BK461.out (by decide)) e_) hs_)); have n2_ := zK (Kd.R_reok rfl hy0 (fun k_ e_ => HO470.out.1 k_ e_)); have n3_ := zK (hb); clear BK453; clear BK461; clear HO470; clear HB; have BK453 := n0_; have BK461 := n1_; have HO470 := n2_; have HB := n3_; clear n0_ n1_ n2_ n3_; (try clear hb); (try clear hkp); (try clear hy0)) | ((with_reducible refine gate_callee (f := 156) rfl ?_); refine goesL_ (some 30) rfl rfl Try.func156 (by kernel_rfl) rfl #[.slice Ao26 y468.length co26] rfl (by (try simp only [z6, z7, z8]); first | done | rfl | (simp only [z4, z5]; rfl)) ?_; (with_reducible refine (slices_Compact_int_int.calls kj2 (fun k_ => some k_ = (.slice Ao26 y468.length co26 : Value).ownBlock) (.slice Ao26 y468.length co26) t471 t472 w _ ?side1 ?side2 A21.out).mono ?_); (case side1 => repeat (first | (with_reducible first | exact HB.out | apply zA | apply zB | apply zC | refine zD ?_ GE453.out | refine zD ?_ GE461.out) | exact HB.out)); (case side2 => exact Kd.R_tight rfl HO470.out); rintro e w28 ⟨v473, rfl, ho0, hb, hkp⟩; refine ⟨_, rfl, ?_⟩; have n0_ := zK (blk_kept (by (with_reducible repeat (first | refine zE ?_ _ | refine zF ?_ | refine zG ?_ _)); exact BK453.out) hkp (fun hs_ => (fun e_ => (Kd.R_ne HO470.out BK453.out (by decide)) e_) hs_)); have n1_ := zK (blk_kept (by (with_reducible repeat (first | refine zE ?_ _ | refine zF ?_ | refine zG ?_ _)); exact BK461.out) hkp (fun hs_ => (fun e_ => (Kd.R_ne HO470.out BK461.out (by decide)) e_) hs_)); have n2_ := zK (Kd.R_mono (ok' := fun k_ => True) ho0 (fun k_ hk_ => trivial)); have n3_ := zK (hb); clear BK453; clear BK461; clear HB; clear HO470; have BK453 := n0_; have BK461 := n1_; have HO474 := n2_; have HB := n3_; clear n0_ n1_ n2_ n3_; (try clear hb); (try clear hkp); (try clear ho0)))
     go_ret
     exact ⟨_, by first | rfl | (simp [errW_none, errW_some] <;> rfl) | (simp [*, errW_none, errW_some] <;> rfl), by (with_reducible repeat (first | apply Kd.R_alloc | apply Kd.R_drewN | apply Kd.R_drew)); exact HO474.out, by repeat (first | (with_reducible first | exact HB.out | apply zA | apply zB | apply zC | refine zD ?_ GE453.out | refine zD ?_ GE461.out) | exact HB.out)⟩
    ·rw [if_neg c19] at H
     exact absurd H (by simp)
   ·replace c18 := Bool.eq_false_iff.mpr c18
    subst c18
    rw [if_neg (show ¬ (false = true) by decide)] at H
    replace H := Option.bind_eq_some_iff.mp H
    obtain ⟨t475, A290, H⟩ := H
    replace H : ((slices_Compact_int_int.f kj2 t475).bind fun t476 => (some t476)) = some r := H
    have A29 := zK A290
    clear A290
    replace H := Option.bind_eq_some_iff.mp H
    obtain ⟨t476, A300, H⟩ := H
    replace H : (some t476) = some r := H
    have A30 := zK A300
    clear A300
    obtain rfl := Option.some.inj H
    have hnb31 := NB461_453.out
    have hnc31 := NB453_461.out
    have hcz32_0 : wc.cell? ⟨gb461, 0, none⟩ = some (.bool t454) := (zI BK461.out 0).trans rfl
    have hcz32_1 : wc.cell? ⟨gb461, 1, none⟩ = some (.bool false) := (zI BK461.out 1).trans rfl
    have hcz32_2 : wc.cell? ⟨gb461, 2, none⟩ = some (.int .i64 t456) := (zI BK461.out 2).trans rfl
    have hcz32_3 : wc.cell? ⟨gb461, 3, none⟩ = some (.int .i64 t457) := (zI BK461.out 3).trans rfl
    have hcz32_4 : wc.cell? ⟨gb461, 4, none⟩ = some (.int .i64 t458) := (zI BK461.out 4).trans rfl
    have hcz32_5 : wc.cell? ⟨gb461, 5, none⟩ = some (.string t459) := (zI BK461.out 5).trans rfl
    have hfz32_0 := zH BK461.out 0
    have hfz32_1 := zH BK461.out 1
    have hfz32_2 := zH BK461.out 2
    have hfz32_3 := zH BK461.out 3
    have hfz32_4 := zH BK461.out 4
    have hfz32_5 := zH BK461.out 5
    obtain ⟨Ao33, co33, eo33⟩ := Kd.R_slice HO_5.out
    subst eo33
    go_wp2_with (first | ((with_reducible refine gate_callee (f := 93) rfl ?_); refine goesL_ (some 28) rfl rfl Try.func93 (by kernel_rfl) rfl #[.slice Ao33 x5_2.length co33] rfl (by (try simp only [z6, z7, z8]); first | done | rfl | (simp only [z4, z5]; rfl)) ?_; (with_reducible refine (slices_Sort_int_int.calls kj2 (fun k_ => some k_ = (.slice Ao33 x5_2.length co33 : Value).ownBlock) (.slice Ao33 x5_2.length co33) x5_2 t475 w _ ?side1 ?side2 A29.out).mono ?_); (case side1 => repeat (first | (with_reducible first | exact HB.out | apply zA | apply zB | apply zC | refine zD ?_ GE453.out | refine zD ?_ GE461.out) | exact HB.out)); (case side2 => exact Kd.R_tight rfl HO_5.out); rintro e w34 ⟨rfl, hy0, hb, hkp⟩; refine ⟨_, rfl, ?_⟩; have n0_ := zK (Kd.R_reok rfl hy0 (fun k_ e_ => HO_5.out.1 k_ e_)); have n1_ := zK (blk_kept (by (with_reducible repeat (first | refine zE ?_ _ | refine zF ?_ | refine zG ?_ _)); exact BK453.out) hkp (fun hs_ => (fun e_ => (Kd.R_ne HO_5.out BK453.out (by decide)) e_) hs_)); have n2_ := zK (blk_kept (by (with_reducible repeat (first | refine zE ?_ _ | refine zF ?_ | refine zG ?_ _)); exact BK461.out) hkp (fun hs_ => (fun e_ => (Kd.R_ne HO_5.out BK461.out (by decide)) e_) hs_)); have n3_ := zK (hb); clear HO_5; clear BK453; clear BK461; clear HB; have HO_5 := n0_; have BK453 := n1_; have BK461 := n2_; have HB := n3_; clear n0_ n1_ n2_ n3_; (try clear hb); (try clear hkp); (try clear hy0)) | ((with_reducible refine gate_callee (f := 156) rfl ?_); refine goesL_ (some 30) rfl rfl Try.func156 (by kernel_rfl) rfl #[.slice Ao33 x5_2.length co33] rfl (by (try simp only [z6, z7, z8]); first | done | rfl | (simp only [z4, z5]; rfl)) ?_; (with_reducible refine (slices_Compact_int_int.calls kj2 (fun k_ => some k_ = (.slice Ao33 x5_2.length co33 : Value).ownBlock) (.slice Ao33 x5_2.length co33) t475 t476 w _ ?side1 ?side2 A30.out).mono ?_); (case side1 => repeat (first | (with_reducible first | exact HB.out | apply zA | apply zB | apply zC | refine zD ?_ GE453.out | refine zD ?_ GE461.out) | exact HB.out)); (case side2 => exact Kd.R_tight rfl HO_5.out); rintro e w35 ⟨v477, rfl, ho0, hb, hkp⟩; refine ⟨_, rfl, ?_⟩; have n0_ := zK (blk_kept (by (with_reducible repeat (first | refine zE ?_ _ | refine zF ?_ | refine zG ?_ _)); exact BK453.out) hkp (fun hs_ => (fun e_ => (Kd.R_ne HO_5.out BK453.out (by decide)) e_) hs_)); have n1_ := zK (blk_kept (by (with_reducible repeat (first | refine zE ?_ _ | refine zF ?_ | refine zG ?_ _)); exact BK461.out) hkp (fun hs_ => (fun e_ => (Kd.R_ne HO_5.out BK461.out (by decide)) e_) hs_)); have n2_ := zK (Kd.R_mono (ok' := fun k_ => True) ho0 (fun k_ hk_ => trivial)); have n3_ := zK (hb); clear BK453; clear BK461; clear HB; clear HO_5; have BK453 := n0_; have BK461 := n1_; have HO478 := n2_; have HB := n3_; clear n0_ n1_ n2_ n3_; (try clear hb); (try clear hkp); (try clear ho0)))
    go_ret
    exact ⟨_, by first | rfl | (simp [errW_none, errW_some] <;> rfl) | (simp [*, errW_none, errW_some] <;> rfl), by (with_reducible repeat (first | apply Kd.R_alloc | apply Kd.R_drewN | apply Kd.R_drew)); exact HO478.out, by repeat (first | (with_reducible first | exact HB.out | apply zA | apply zB | apply zC | refine zD ?_ GE453.out | refine zD ?_ GE461.out) | exact HB.out)⟩

/-! ### slices_DeleteFunc_int_int_impl_Instr_before_c1: function 153 -/
-- needs: Derived.Test.YtecmlikhmkcdpaaDel
-- needs: Derived.Lib.RowBridge
def slices_DeleteFunc_int_int_impl_Instr_before_c1.f (k : Nat) (l0 : List Int) (a1 : Int) : Option (List Int) := if l0.length ≤ 9223372036854775807 then some (l0.filter fun x => !(x == a1)) else none
theorem slices_DeleteFunc_int_int_impl_Instr_before_c1.mono : ∀ a0 a1 k, LeO (slices_DeleteFunc_int_int_impl_Instr_before_c1.f k a0 a1) (slices_DeleteFunc_int_int_impl_Instr_before_c1.f (k + 1) a0 a1) := fun _ _ _ => LeO.refl _
theorem slices_DeleteFunc_int_int_impl_Instr_before_c1.hand_pred (g0 : Nat) (a1 : Int) (W : World) (x : Int) (hc : W.cell? ⟨g0, 1, none⟩ = some (.int .i64 a1)) : FnGives Try.prog 154 #[.pointer (some ⟨g0, 0, none⟩)] #[.int .i64 x] (.bool (x == a1)) W := by
 show Calls Try.prog 154 #[.int .i64 x, .pointer (some ⟨g0, 0, none⟩)] W _
 go_enter Try.func154, Try.ntmps154
 go_wp2
 go_ret
 exact ⟨rfl, 0, rfl⟩
set_option maxHeartbeats 16000000 in
set_option maxRecDepth 100000 in
theorem slices_DeleteFunc_int_int_impl_Instr_before_c1.hand_nil (w : World) (g0 : Nat) : Calls Try.prog 153 #[.slice none 0 0, .func (.func 154) #[] #[.pointer (some ⟨g0, 0, none⟩)]] w fun e w' => e = .returned (.slice none 0 0) ∧ ∃ q, w' = w.drewN q := by
 go_enter Try.func153, Try.ntmps153
 go_wp2_with (go_at_call 167; refine (Try.slices_IndexFunc_empty_f167 (α := Int) _ _ _ _).mono ?_; rintro e w' ⟨rfl, rfl⟩)
 go_ret
 exact ⟨rfl, 0, rfl⟩
theorem slices_DeleteFunc_int_int_impl_Instr_before_c1.hand_calls (k : Nat) (P0_ : Nat → Prop) (u9000_ : Value) (l0 : List Int) (a1 : Int) (r : List Int) (w0 w : World) (hB : Below w0.heap.size w0 w) (ho0 : Kd.R (Kd.int .i64) 3 w w0.heap.size P0_ u9000_ l0) (g0 : Nat) (s : ByteArray) (y2 y3 y4 : Int) (hg0 : w.heap[g0]? = some (.cells #[.string s, .int .i64 a1, .int .i64 y2, .int .i64 y3, .int .i64 y4] 67 (0, 0))) (h : slices_DeleteFunc_int_int_impl_Instr_before_c1.f k l0 a1 = some r) :
  Calls Try.prog 153 #[u9000_, .func (.func 154) #[] #[.pointer (some ⟨g0, 0, none⟩)]] w fun e w' => ∃ v0_ : Value, e = .returned (v0_) ∧ Kd.R (Kd.int .i64) 3 w' w0.heap.size (fun k_ => (P0_ k_ ∨ w.heap.size ≤ k_)) v0_ r ∧ Below w0.heap.size w0 w' ∧ Kept w w' (fun k_ => P0_ k_) := by
 unfold slices_DeleteFunc_int_int_impl_Instr_before_c1.f at h
 by_cases c2 : l0.length ≤ 9223372036854775807
 ·rw [if_pos c2] at h
  obtain rfl := Option.some.inj h
  have hne := Kd.R_ne ho0 hg0 (by decide)
  have hgl : g0 < w.heap.size := (Array.getElem?_eq_some_iff.1 hg0).1
  have hcell : ∀ W : World, W.heap[g0]? = w.heap[g0]? → W.cell? ⟨g0, 1, none⟩ = some (.int .i64 a1) := fun W hW => by
   rw [World.cell?_of_block (w := w) (a := ⟨g0, 1, none⟩) hW]
   exact (zI hg0 1).trans rfl
  have hp : PredAt Try.prog 154 #[.pointer (some ⟨g0, 0, none⟩)] (Value.int .i64) (fun x => x == a1) w := fun W x hW => slices_DeleteFunc_int_int_impl_Instr_before_c1.hand_pred g0 a1 W x (hcell W (hW.block g0 hgl))
  have hb1 := ho0.2
  obtain ⟨inner, ⟨hlen, hc⟩, hreps⟩ := hb1
  rcases hc with ⟨rfl, h0⟩ | ⟨g, cap, cur, rfl, hb, hh, hnc, hcm, hcs, ht⟩
  ·obtain rfl := List.length_eq_zero_iff.1 h0
   refine (slices_DeleteFunc_int_int_impl_Instr_before_c1.hand_nil w g0).mono ?_
   rintro e w' ⟨rfl, q, rfl⟩
   exact ⟨_, rfl, Kd.R_nil _ _ _ _ _, zB hB q, (Kept.refl _ _).drewN q⟩
  ·have hgg : g0 ≠ g := fun e => hne (by rw [e]; rfl)
   have hpo : PredOver Try.prog 154 #[.pointer (some ⟨g0, 0, none⟩)] (Value.int .i64) (fun x => x == a1) g 0 l0.toArray.size w := fun n os dk x _ => slices_DeleteFunc_int_int_impl_Instr_before_c1.hand_pred g0 a1 _ x (hcell _ (by
    show ((w.heap.modify g (Go.Sort.onCells (Go.Sort.putCells (Value.int .i64) 0 dk))) ++ os)[g0]? = _
    rw [Array.getElem?_append_left (by simpa using hgl), Array.getElem?_modify, if_neg (fun e => hgg e.symm)]))
   refine (Try.slices_DeleteFunc (Value.int .i64) (fun _ => rfl) (fun x => x == a1) 154 #[.pointer (some ⟨g0, 0, none⟩)] (enters_of Try.func154 (by kernel_rfl) rfl) 0 (fun w => Try.zeroValue3 w) g 0 cap l0.toArray w hp hpo (rowput.hand_H ho0 rfl) (by simpa using c2) (by simpa using hnc)).mono ?_
   rintro e w' ⟨rfl, n, rfl⟩
   have hl : (l0.filter fun x => !(x == a1)).length ≤ l0.length := List.length_filter_le _ _
   obtain ⟨h1, h2⟩ := rowput.hand_R (l' := (l0.filter fun x => !(x == a1)) ++ List.replicate (l0.length - (l0.filter fun x => !(x == a1)).length) 0) ho0 rfl n #[] (by simp; omega)
   rw [Go.Sort.grow_empty] at h1 h2
   have h3 := Kd.R_take (m := (l0.filter fun x => !(x == a1)).length) h1 (by simp)
   rw [List.take_left] at h3
   exact ⟨_, rfl, Kd.R_mono h3 (fun k hk => .inl hk), hB.grown h2 hB.size (fun k e => by cases e; exact hb), Kept.of_grown h2 (Kept.refl _ _) (fun k e => by cases e; exact .inl (ho0.1 _ rfl))⟩
 ·rw [if_neg c2] at h
  cases h

/-! ### impl_Instr_before: function 105 -/
def impl_Instr_before.f (k : Nat) (a0_0 : ByteArray) (a0_1 : Int) (a0_2 : Int) (a0_3 : Int) (a0_4 : Int) (l1 : List Int) : Option (List Int) := (slices_Clone_int_int.f l1).bind fun t493 => ((slices_DeleteFunc_int_int_impl_Instr_before_c1.f k t493 a0_1).bind fun t496 => ((impl_Instr_reads.f k a0_0 a0_1 a0_2 a0_3 a0_4).bind fun t499 => (if t496.length + t499.length < 17592186044416 then ((slices_Sort_int_int.f k (t496 ++ t499)).bind fun t505 => ((slices_Compact_int_int.f k t505).bind fun t506 => (some t506))) else (none))))
theorem impl_Instr_before.mono : ∀ a0 a1 a2 a3 a4 a5 k, LeO (impl_Instr_before.f k a0 a1 a2 a3 a4 a5) (impl_Instr_before.f (k + 1) a0 a1 a2 a3 a4 a5) := by
 intro a0 a1 a2 a3 a4 a5 k
 unfold impl_Instr_before.f
 repeat' first
   | (with_reducible exact impl_Instr_reads.mono _ _ _ _ _ _)
   | (with_reducible exact slices_Compact_int_int.mono _ _)
   | (with_reducible exact slices_DeleteFunc_int_int_impl_Instr_before_c1.mono _ _ _)
   | (with_reducible exact slices_Sort_int_int.mono _ _)
   | (with_reducible exact LeO.refl _)
   | (with_reducible exact LeO.none _)
   | (with_reducible refine LeO.ite ?_ ?_)
   | (with_reducible refine LeO.bind ?_ (fun _ => ?_))
   | exact impl_Instr_reads.mono _ _ _ _ _ _
   | exact slices_Compact_int_int.mono _ _
   | exact slices_DeleteFunc_int_int_impl_Instr_before_c1.mono _ _ _
   | exact slices_Sort_int_int.mono _ _
   | exact LeO.none _
   | refine LeO.ite ?_ ?_
   | refine LeO.bind ?_ (fun _ => ?_)
set_option maxHeartbeats 16000000 in
set_option maxRecDepth 100000 in
theorem impl_Instr_before.calls (k : Nat) (a0_0 : ByteArray) (a0_1 : Int) (a0_2 : Int) (a0_3 : Int) (a0_4 : Int) (A1 : Option Addr) (c1 : Nat) (l1 : List Int) (r : List Int) (w : World) (hr1 : Kd.C (Kd.int .i64) w A1 l1.length l1) (hc1 : l1.length ≤ c1) (h : impl_Instr_before.f k a0_0 a0_1 a0_2 a0_3 a0_4 l1 = some r) :
  Calls Try.prog 105 #[.agg #[.string a0_0, .int .i64 a0_1, .int .i64 a0_2, .int .i64 a0_3, .int .i64 a0_4], .slice A1 l1.length c1] w fun e w' => ∃ v0_ : Value, e = .returned (v0_) ∧ Kd.R (Kd.int .i64) 3 w' w.heap.size (fun _ => True) v0_ r ∧ Below w.heap.size w w' := by
 have hu67 := Try.underlying67
 have HR1 := zK hr1
 have HC1 := zK hc1
 clear hr1 hc1
 have HB := zK (Below.refl w.heap.size w)
 have H : ((slices_Clone_int_int.f l1).bind fun t493 => ((slices_DeleteFunc_int_int_impl_Instr_before_c1.f k t493 a0_1).bind fun t496 => ((impl_Instr_reads.f k a0_0 a0_1 a0_2 a0_3 a0_4).bind fun t499 => (if t496.length + t499.length < 17592186044416 then ((slices_Sort_int_int.f k (t496 ++ t499)).bind fun t505 => ((slices_Compact_int_int.f k t505).bind fun t506 => (some t506))) else (none))))) = some r := h
 clear h
 replace H := Option.bind_eq_some_iff.mp H
 obtain ⟨t493, A30, H⟩ := H
 replace H : ((slices_DeleteFunc_int_int_impl_Instr_before_c1.f k t493 a0_1).bind fun t496 => ((impl_Instr_reads.f k a0_0 a0_1 a0_2 a0_3 a0_4).bind fun t499 => (if t496.length + t499.length < 17592186044416 then ((slices_Sort_int_int.f k (t496 ++ t499)).bind fun t505 => ((slices_Compact_int_int.f k t505).bind fun t506 => (some t506))) else (none)))) = some r := H
 have A3 := zK A30
 clear A30
 replace H := Option.bind_eq_some_iff.mp H
 obtain ⟨t496, A40, H⟩ := H
 replace H : ((impl_Instr_reads.f k a0_0 a0_1 a0_2 a0_3 a0_4).bind fun t499 => (if t496.length + t499.length < 17592186044416 then ((slices_Sort_int_int.f k (t496 ++ t499)).bind fun t505 => ((slices_Compact_int_int.f k t505).bind fun t506 => (some t506))) else (none))) = some r := H
 have A4 := zK A40
 clear A40
 replace H := Option.bind_eq_some_iff.mp H
 obtain ⟨t499, A50, H⟩ := H
 replace H : (if t496.length + t499.length < 17592186044416 then ((slices_Sort_int_int.f k (t496 ++ t499)).bind fun t505 => ((slices_Compact_int_int.f k t505).bind fun t506 => (some t506))) else (none)) = some r := H
 have A5 := zK A50
 clear A50
 by_cases c6 : t496.length + t499.length < 17592186044416
 ·rw [if_pos c6] at H
  have LMc6 := zK c6
  clear c6
  obtain ⟨y502, hy502⟩ : ∃ y_ : List Int, y_ = (t496 ++ t499) := ⟨_, rfl⟩
  replace H : ((slices_Sort_int_int.f k y502).bind fun t505 => ((slices_Compact_int_int.f k t505).bind fun t506 => (some t506))) = some r := by first | (rw [hy502]; with_reducible exact H) | (have H2_ := (Option.bind_some _ _).symm.trans H; rw [hy502]; with_reducible exact H2_) | (have H2_ := (Option.bind_some _ _).symm.trans H; with_reducible exact H2_) | with_reducible exact H | (rw [hy502]; exact H) | exact H
  have Ny502 := zK hy502
  clear hy502
  replace H := Option.bind_eq_some_iff.mp H
  obtain ⟨t505, A70, H⟩ := H
  replace H : ((slices_Compact_int_int.f k t505).bind fun t506 => (some t506)) = some r := H
  have A7 := zK A70
  clear A70
  replace H := Option.bind_eq_some_iff.mp H
  obtain ⟨t506, A80, H⟩ := H
  replace H : (some t506) = some r := H
  have A8 := zK A80
  clear A80
  obtain rfl := Option.some.inj H
  go_enter Try.func105, Try.ntmps105
  have hmf : ∀ (fn : Fn) (first cap : Array Value) (w : World), (Instr.makeFunc fn first cap).run Try.prog w = .ok (.func fn first cap) w := fun _ _ _ _ => rfl
  go_wp2_with (first | ((with_reducible refine gate_dst (N := 2) rfl ?_); refine box_event ?hg (N := 2) ?hd (cs := #[.string a0_0, .int .i64 a0_1, .int .i64 a0_2, .int .i64 a0_3, .int .i64 a0_4]) (t := 67) ?hr ?_; (case hd => rfl); (case hg => rfl); (case hr => first | (go_simp; done) | (go_simp; rfl)); intro gb492 hg w9 hbox hb; have n0_ := zK (zL (by repeat (first | (with_reducible first | exact HB.out | apply zA | apply zB | apply zC) | exact HB.out)) hb); have n1_ := zK (hbox); have n2_ := zK ((by rw [hg]; exact (zN (by repeat (first | (with_reducible first | exact HB.out | apply zA | apply zB | apply zC) | exact HB.out))) : w.heap.size ≤ gb492)); have n3_ := n2_; clear HB; have HB := n0_; have BK492 := n1_; have GW492 := n2_; have GE492 := n3_; clear n0_ n1_ n2_ n3_; clear hb hbox hg) | ((with_reducible refine gate_callee (f := 79) rfl ?_); refine goesL_ (some 7) rfl rfl Try.func79 (by kernel_rfl) rfl #[.slice A1 l1.length c1] rfl (by (try simp only [z6, z7, z8]); first | done | rfl | (simp only [z4, z5]; rfl)) ?_; (with_reducible refine (slices_Clone_int_int.calls _ _ l1 t493 _ ?side1 ?side2 A3.out).mono ?_); (case side1 => repeat (first | exact (Kd.C_below HR1.out HB.out) | (with_reducible refine Kd.C_alloc ?_ _) | (with_reducible refine Kd.C_drewN ?_ _) | (with_reducible refine Kd.C_drew ?_))); (case side2 => exact HC1.out); rintro e w10 ⟨v494, rfl, ho0, hb⟩; refine ⟨_, rfl, ?_⟩; have n0_ := zK (Kd.R_lower ho0 (zN (by repeat (first | (with_reducible first | exact HB.out | apply zA | apply zB | apply zC | refine zD ?_ GE492.out) | exact HB.out)))); have n1_ := zK (zM (g := gb492) (o := .cells #[.string a0_0, .int .i64 a0_1, .int .i64 a0_2, .int .i64 a0_3, .int .i64 a0_4] 67 (0, 0)) (by (with_reducible repeat (first | refine zE ?_ _ | refine zF ?_ | refine zG ?_ _)); exact BK492.out) hb); have n2_ := zK (zL (by repeat (first | (with_reducible first | exact HB.out | apply zA | apply zB | apply zC | refine zD ?_ GE492.out) | exact HB.out)) hb); clear BK492; clear HB; have HO495 := n0_; have BK492 := n1_; have HB := n2_; clear n0_ n1_ n2_; (try clear hb); (try clear hb2); (try clear hk); (try clear hi); (try clear ho0); have hcz11_0 : w10.cell? ⟨gb492, 0, none⟩ = some (.string a0_0) := (zI BK492.out 0).trans rfl; have hcz11_1 : w10.cell? ⟨gb492, 1, none⟩ = some (.int .i64 a0_1) := (zI BK492.out 1).trans rfl; have hcz11_2 : w10.cell? ⟨gb492, 2, none⟩ = some (.int .i64 a0_2) := (zI BK492.out 2).trans rfl; have hcz11_3 : w10.cell? ⟨gb492, 3, none⟩ = some (.int .i64 a0_3) := (zI BK492.out 3).trans rfl; have hcz11_4 : w10.cell? ⟨gb492, 4, none⟩ = some (.int .i64 a0_4) := (zI BK492.out 4).trans rfl; have hfz11_0 := zH BK492.out 0; have hfz11_1 := zH BK492.out 1; have hfz11_2 := zH BK492.out 2; have hfz11_3 := zH BK492.out 3; have hfz11_4 := zH BK492.out 4; obtain ⟨Ao12, co12, eo12⟩ := Kd.R_slice HO495.out; subst eo12) | ((with_reducible refine gate_callee (f := 153) rfl ?_); refine goesL_ (some 9) rfl rfl Try.func153 (by kernel_rfl) rfl #[.slice Ao12 t493.length co12, .func (.func 154) #[] #[.pointer (some ⟨gb492, 0, none⟩)]] rfl (by (try simp only [z6, z7, z8]); first | done | rfl | (simp only [z4, z5]; rfl)) ?_; (with_reducible refine (slices_DeleteFunc_int_int_impl_Instr_before_c1.hand_calls k (fun k_ => some k_ = (.slice Ao12 t493.length co12 : Value).ownBlock) (.slice Ao12 t493.length co12) t493 a0_1 t496 w _ ?side1 ?side2 gb492 _ _ _ _ BK492.out A4.out).mono ?_); (case side1 => repeat (first | (with_reducible first | exact HB.out | apply zA | apply zB | apply zC | refine zD ?_ GE492.out) | exact HB.out)); (case side2 => exact Kd.R_tight rfl HO495.out); rintro e w13 ⟨v497, rfl, ho0, hb, hkp⟩; refine ⟨_, rfl, ?_⟩; have n0_ := zK (blk_kept (by (with_reducible repeat (first | refine zE ?_ _ | refine zF ?_ | refine zG ?_ _)); exact BK492.out) hkp (fun hs_ => (fun e_ => (Kd.R_ne HO495.out BK492.out (by decide)) e_) hs_)); have n1_ := zK (Kd.R_mono (ok' := fun k_ => True) ho0 (fun k_ hk_ => trivial)); have n2_ := zK (hb); clear BK492; clear HB; clear HO495; have BK492 := n0_; have HO498 := n1_; have HB := n2_; clear n0_ n1_ n2_; (try clear hb); (try clear hkp); (try clear ho0); have hcz14_0 : w13.cell? ⟨gb492, 0, none⟩ = some (.string a0_0) := (zI BK492.out 0).trans rfl; have hcz14_1 : w13.cell? ⟨gb492, 1, none⟩ = some (.int .i64 a0_1) := (zI BK492.out 1).trans rfl; have hcz14_2 : w13.cell? ⟨gb492, 2, none⟩ = some (.int .i64 a0_2) := (zI BK492.out 2).trans rfl; have hcz14_3 : w13.cell? ⟨gb492, 3, none⟩ = some (.int .i64 a0_3) := (zI BK492.out 3).trans rfl; have hcz14_4 : w13.cell? ⟨gb492, 4, none⟩ = some (.int .i64 a0_4) := (zI BK492.out 4).trans rfl; have hfz14_0 := zH BK492.out 0; have hfz14_1 := zH BK492.out 1; have hfz14_2 := zH BK492.out 2; have hfz14_3 := zH BK492.out 3; have hfz14_4 := zH BK492.out 4) | ((with_reducible refine gate_callee (f := 155) rfl ?_); refine goesL_ (some 12) rfl rfl Try.func155 (by kernel_rfl) rfl #[.agg #[.string a0_0, .int .i64 a0_1, .int .i64 a0_2, .int .i64 a0_3, .int .i64 a0_4]] rfl (by (try simp only [z6, z7, z8]); first | done | rfl | (simp only [z4, z5]; rfl)) ?_; (with_reducible refine (impl_Instr_reads.calls k a0_0 a0_1 a0_2 a0_3 a0_4 t499 _ A5.out).mono ?_); rintro e w15 ⟨v500, rfl, ho0, hb⟩; refine ⟨_, rfl, ?_⟩; have n0_ := zK (Kd.R_elder' (by (with_reducible repeat (first | apply Kd.R_alloc | apply Kd.R_drewN | apply Kd.R_drew)); exact HO498.out) (Kd.R_base ho0) hb); have n1_ := zK (Kd.R_lower (Kd.R_new' ho0 (Kd.R_lt (by (with_reducible repeat (first | apply Kd.R_alloc | apply Kd.R_drewN | apply Kd.R_drew)); exact HO498.out))) (zN (by repeat (first | (with_reducible first | exact HB.out | apply zA | apply zB | apply zC | refine zD ?_ GE492.out) | exact HB.out)))); have n2_ := zK (zM (g := gb492) (o := .cells #[.string a0_0, .int .i64 a0_1, .int .i64 a0_2, .int .i64 a0_3, .int .i64 a0_4] 67 (0, 0)) (by (with_reducible repeat (first | refine zE ?_ _ | refine zF ?_ | refine zG ?_ _)); exact BK492.out) hb); have n3_ := zK (zL (by repeat (first | (with_reducible first | exact HB.out | apply zA | apply zB | apply zC | refine zD ?_ GE492.out) | exact HB.out)) hb); clear HO498; clear BK492; clear HB; have HO498 := n0_; have HO501 := n1_; have BK492 := n2_; have HB := n3_; clear n0_ n1_ n2_ n3_; (try clear hb); (try clear hb2); (try clear hk); (try clear hi); (try clear ho0); obtain ⟨Ao17, co17, eo17⟩ := Kd.R_slice HO501.out; subst eo17) | ((with_reducible refine gate_builtin (b := .append) (xs := #[.tmp 10, .tmp 12]) rfl ?_); at_builtin; refine Kd.R_append_rows (Kd.int .i64) (w0 := w) w.heap.size rfl (.tmp 10) (.tmp 12) 40 3 (.int .i64 0) 8 rfl Try.underlying40 info3 rfl (by decide) (by omega) v497 t496 t499 _ _ _ (fun k_ => some k_ ≠ (.slice Ao17 t499.length co17 : Value).ownBlock) (fun _ => False) rfl rfl ?aO ?aR (fun _ _ h => h) (fun _ h => h.elim) ?aF ?aB ?aS ?aL ?_; (case aR => repeat (first | exact (Kd.R_reads' HO501.out).2.2 | (with_reducible refine Kd.C_alloc ?_ _) | (with_reducible refine Kd.C_drewN ?_ _) | (with_reducible refine Kd.C_drew ?_))); (case aB => exact (by repeat (first | (with_reducible first | exact HB.out | apply zA | apply zB | apply zC | refine zD ?_ GE492.out) | exact HB.out))); (case aF => exact (fun k_ hk => Kd.fresh' (Kd.R_lt (by (with_reducible repeat (first | apply Kd.R_alloc | apply Kd.R_drewN | apply Kd.R_drew)); exact HO501.out)) k_ hk)); (case aO => exact (by (with_reducible repeat (first | apply Kd.R_alloc | apply Kd.R_drewN | apply Kd.R_drew)); exact Kd.R_mono HO498.out (fun _ hk => hk.2))); (case aS => exact (zN (by repeat (first | (with_reducible first | exact HB.out | apply zA | apply zB | apply zC | refine zD ?_ GE492.out) | exact HB.out)))); (case aL => have := LMc6.out; omega); intro v503 w16 ho hb hg hat; rw [← Ny502.out] at ho; have n0_ := zK (blk_grown (g := gb492) (o := .cells #[.string a0_0, .int .i64 a0_1, .int .i64 a0_2, .int .i64 a0_3, .int .i64 a0_4] 67 (0, 0)) (by (with_reducible repeat (first | refine zE ?_ _ | refine zF ?_ | refine zG ?_ _)); exact BK492.out) hg (Kd.R_ne HO498.out BK492.out (by decide))); have n1_ := zK (Kd.R_after (ok := (fun _ => True)) (by (with_reducible repeat (first | apply Kd.R_alloc | apply Kd.R_drewN | apply Kd.R_drew)); exact HO501.out) hg hat); have n2_ := zK (hb); have n3_ := zK (ho); clear BK492; clear HO501; clear HB; clear HO498; have BK492 := n0_; have HO501 := n1_; have HB := n2_; have HO504 := n3_; clear n0_ n1_ n2_ n3_; clear ho hb hg hat; obtain ⟨Ao18, co18, eo18⟩ := Kd.R_slice HO504.out; subst eo18) | ((with_reducible refine gate_callee (f := 93) rfl ?_); refine goesL_ (some 15) rfl rfl Try.func93 (by kernel_rfl) rfl #[.slice Ao18 y502.length co18] rfl (by (try simp only [z6, z7, z8]); first | done | rfl | (simp only [z4, z5]; rfl)) ?_; (with_reducible refine (slices_Sort_int_int.calls k (fun k_ => some k_ = (.slice Ao18 y502.length co18 : Value).ownBlock) (.slice Ao18 y502.length co18) y502 t505 w _ ?side1 ?side2 A7.out).mono ?_); (case side1 => repeat (first | (with_reducible first | exact HB.out | apply zA | apply zB | apply zC | refine zD ?_ GE492.out) | exact HB.out)); (case side2 => exact Kd.R_tight rfl HO504.out); rintro e w19 ⟨rfl, hy0, hb, hkp⟩; refine ⟨_, rfl, ?_⟩; have n0_ := zK (blk_kept (by (with_reducible repeat (first | refine zE ?_ _ | refine zF ?_ | refine zG ?_ _)); exact BK492.out) hkp (fun hs_ => (fun e_ => (Kd.R_ne HO504.out BK492.out (by decide)) e_) hs_)); have n1_ := zK (Kd.R_mono (ok' := fun k_ => some k_ ≠ (.slice Ao18 y502.length co18 : Value).ownBlock) (Kd.R_keptB (HO501.out) hkp (fun k_ hk_ hs_ => (hk_.2) hs_)) (fun k_ hk_ => hk_.1.2)); have n2_ := zK (Kd.R_reok rfl hy0 (fun k_ e_ => HO504.out.1 k_ e_)); have n3_ := zK (hb); clear BK492; clear HO501; clear HO504; clear HB; have BK492 := n0_; have HO501 := n1_; have HO504 := n2_; have HB := n3_; clear n0_ n1_ n2_ n3_; (try clear hb); (try clear hkp); (try clear hy0)) | ((with_reducible refine gate_callee (f := 156) rfl ?_); refine goesL_ (some 17) rfl rfl Try.func156 (by kernel_rfl) rfl #[.slice Ao18 y502.length co18] rfl (by (try simp only [z6, z7, z8]); first | done | rfl | (simp only [z4, z5]; rfl)) ?_; (with_reducible refine (slices_Compact_int_int.calls k (fun k_ => some k_ = (.slice Ao18 y502.length co18 : Value).ownBlock) (.slice Ao18 y502.length co18) t505 t506 w _ ?side1 ?side2 A8.out).mono ?_); (case side1 => repeat (first | (with_reducible first | exact HB.out | apply zA | apply zB | apply zC | refine zD ?_ GE492.out) | exact HB.out)); (case side2 => exact Kd.R_tight rfl HO504.out); rintro e w20 ⟨v507, rfl, ho0, hb, hkp⟩; refine ⟨_, rfl, ?_⟩; have n0_ := zK (blk_kept (by (with_reducible repeat (first | refine zE ?_ _ | refine zF ?_ | refine zG ?_ _)); exact BK492.out) hkp (fun hs_ => (fun e_ => (Kd.R_ne HO504.out BK492.out (by decide)) e_) hs_)); have n1_ := zK (Kd.R_mono (ok' := fun k_ => some k_ ≠ (v507 : Value).ownBlock) (Kd.R_keptB (HO501.out) hkp (fun k_ hk_ hs_ => (hk_) hs_)) (fun k_ hk_ => fun e_ => Or.elim (ho0.1 k_ e_.symm) (fun hs_ => hk_.2.1 hs_) (fun hn_ => Nat.not_le.2 hk_.2.2 hn_))); have n2_ := zK (Kd.R_mono (ok' := fun k_ => some k_ ≠ (.slice Ao17 t499.length co17 : Value).ownBlock) ho0 (fun k_ hk_ => Or.elim hk_ (fun hs_ => fun e_ => (((HO501.out).1 k_ e_.symm)) hs_) (fun hn_ => (Kd.fresh' (Kd.R_lt (by (with_reducible repeat (first | apply Kd.R_alloc | apply Kd.R_drewN | apply Kd.R_drew)); exact HO501.out)) k_ hn_)))); have n3_ := zK (hb); clear BK492; clear HO501; clear HB; clear HO504; have BK492 := n0_; have HO501 := n1_; have HO508 := n2_; have HB := n3_; clear n0_ n1_ n2_ n3_; (try clear hb); (try clear hkp); (try clear ho0)))
  go_ret
  exact ⟨_, by first | rfl | (simp [errW_none, errW_some] <;> rfl) | (simp [*, errW_none, errW_some] <;> rfl), by (with_reducible repeat (first | apply Kd.R_alloc | apply Kd.R_drewN | apply Kd.R_drew)); exact Kd.R_mono HO508.out (fun _ hk => trivial), by repeat (first | (with_reducible first | exact HB.out | apply zA | apply zB | apply zC | refine zD ?_ GE492.out) | exact HB.out)⟩
 ·rw [if_neg c6] at H
  exact absurd H (by simp)

/-! ### bwiter -/
-- needs: Derived.RangeFuncNested
-- needs: Derived.RangeFuncBound
-- needs: Derived.RangeFuncCalls
-- needs: Derived.RangeFuncLeaves
-- needs: Derived.Shelf.Abstract
-- needs: Derived.Shelf.RegionOpen
-- needs: Derived.OwnWalkIn
-- needs: Derived.TacticsInMore
-- needs: Derived.LoopNIn
-- needs: Derived.LoopIn
section
attribute [local go_sem] Oper.semAt_some
abbrev bwiter.handA (n : Nat) := { i : Nat // i < n }
def bwiter.hand_encs (xs : List S67) (x : bwiter.handA xs.length) : Array Value := #[.int .i64 (x.1 : Int), .agg #[.string (rd_T67 xs (x.1 : Int)).f0, .int .i64 (rd_T67 xs (x.1 : Int)).f1, .int .i64 (rd_T67 xs (x.1 : Int)).f2, .int .i64 (rd_T67 xs (x.1 : Int)).f3, .int .i64 (rd_T67 xs (x.1 : Int)).f4]]
/-- What a round keeps: what lay below n₀, and the iterator's own box. -/
def bwiter.hand_keep (n₀ Bs : Nat) (W W' : World) : Prop := Below n₀ W W' ∧ W'.heap[Bs]? = W.heap[Bs]?
theorem bwiter.hand_keep_t {n₀ Bs : Nat} {X Y Z : World} (h : bwiter.hand_keep n₀ Bs X Y) (k : bwiter.hand_keep n₀ Bs Y Z) : bwiter.hand_keep n₀ Bs X Z := ⟨h.1.trans k.1, k.2.trans h.2⟩
theorem bwiter.hand_keep_b {n₀ Bs : Nat} {w : World} (hn : n₀ ≤ w.heap.size) (hB : Bs < w.heap.size) (W : World) (l : Nat) (o o' : Obj) (hl : w.heap.size ≤ l) (h : W.heap[l]? = some o) (hc : o.isCells = false) (hw : o.isWalk = false) : bwiter.hand_keep n₀ Bs W (W.putObj l o') :=
 ⟨belowK_b hn W l o o' hl h hc hw, World.putObj_heap_other (by omega)⟩
/-- What has come when only c elements are left. -/
def bwiter.hand_from (n : Nat) : Nat → List (bwiter.handA n)
 | 0 => []
 | m + 1 => bwiter.hand_from n m ++ (if h : n - 1 - m < n then [⟨n - 1 - m, h⟩] else [])
theorem bwiter.hand_from_len (n m : Nat) (h : m ≤ n) : (bwiter.hand_from n m).length = m := by
 induction m with
 | zero => rfl
 | succ m ih => rw [bwiter.hand_from, dif_pos (by omega), List.length_append, ih (by omega)]; rfl
theorem bwiter.hand_make (F : Fence) (n : Nat) (h5 : F.fn 103) (hro : F.round = none) (a : Option Addr) (len cap : Nat) (w : World) :
  CallsIn F n Try.prog 103 #[.slice a len cap] w fun e w' => e = .returned (.func (.func 151) #[] #[.pointer (some ⟨w.heap.size, 0, none⟩)]) ∧ w' = w.alloc (.cells #[.slice a len cap] 24) := by
 refine callsIn_of_wp Try.func103 rfl h5 ?_ hro
 simp only [Try.ntmps103, List.size_toArray, List.length_cons, List.length_nil, Nat.reduceAdd, Nat.reduceSub, Array.replicate_succ, Array.replicate_zero, List.push_toArray, List.append_toArray, List.nil_append, List.cons_append]
 gi_wp2
 go_ret
 exact ⟨rfl, rfl⟩
set_option maxRecDepth 100000 in
set_option maxHeartbeats 4000000 in
theorem bwiter.hand_walk (F : Fence) (n n₀ : Nat) (h8 : F.fn 151) (hro : F.round = none) (hn : 1 ≤ n) (l Bs cap : Nat) (A : Option Addr) (xs : List S67) (w0 : World) (hreach : xs.length ≤ 1000000) (hC : Kd.C k67 w0 A xs.length xs) (J Jx : List (bwiter.handA xs.length) → World → Prop)
  (hY : ∀ pre x W, J pre W → pre.length < xs.length → YieldAt F (n - 1) Try.prog l (bwiter.hand_encs xs x) W fun e W' =>
   (e = .returned (.bool true) ∧ J (pre ++ [x]) W' ∧ bwiter.hand_keep n₀ Bs W W') ∨ (e = .returned (.bool false) ∧ Jx (pre ++ [x]) W'))
  (hn₀ : w0.heap.size ≤ n₀) (W : World) (hW : Below w0.heap.size w0 W) (hBs : W.cell? ⟨Bs, 0, none⟩ = some (.slice A xs.length cap)) (h0 : J [] W) :
  CallsIn F n Try.prog 151 #[.func (.yield l) #[] #[], .pointer (some ⟨Bs, 0, none⟩)] W fun e W' => (∃ v, e = .returned v) ∧
   ((∃ ys, ys = bwiter.hand_from xs.length xs.length ∧ J ys W') ∨ (∃ pre, (∃ k, k ≤ xs.length ∧ pre = bwiter.hand_from xs.length k) ∧ Jx pre W')) := by
 refine callsIn_of_wp Try.func151 rfl h8 ?_ hro
 simp only [Try.ntmps151, List.size_toArray, List.length_cons, List.length_nil, Nat.reduceAdd, Nat.reduceSub, Array.replicate_succ, Array.replicate_zero, List.push_toArray, List.append_toArray, List.nil_append, List.cons_append]
 have hw0 : wrap64 ((xs.length : Int) - 1) = (xs.length : Int) - 1 := by unfold wrap64; omega
 gi_wp2
 gi_loopw [3] (fun i wr => ∃ c : Nat, c ≤ xs.length ∧ i = .int .i64 ((c : Int) - 1) ∧ J (bwiter.hand_from xs.length (xs.length - c)) wr ∧ bwiter.hand_keep n₀ Bs W wr)
  (fun i _ => (intOf i + 1).toNat)
 case atStart => exact ⟨xs.length, Nat.le_refl _, by simp [hw0], by rw [Nat.sub_self]; exact h0, Below.refl _ _, rfl⟩
 case round =>
  obtain ⟨c, hk, rfl, hJs, hnx⟩ := hrel
  have hbs := (World.cell?_of_block (a := ⟨Bs, 0, none⟩) hnx.2).trans hBs
  cases c with
  | zero =>
   gi_wp2
   go_end0
   exact ⟨⟨_, rfl⟩, .inl ⟨_, rfl, by rw [Nat.sub_zero] at hJs; exact hJs⟩⟩
  | succ j =>
   have hj : j < xs.length := by omega
   have hCr : Kd.C k67 wr A xs.length xs := Kd.C_below hC (hW.trans (hnx.1.mono hn₀))
   obtain ⟨ad, hA, hx0, hx1, hx2, hx3, hx4⟩ := at_T67 hCr (j : Int) (by omega) (by omega)
   subst hA
   have e1 : ((j + 1 : Nat) : Int) - 1 = (j : Int) := by omega
   simp only [e1]
   have hlen := bwiter.hand_from_len xs.length (xs.length - (j + 1)) (by omega)
   obtain ⟨fn, tmps, assign, body, hy, hR⟩ := hY _ ⟨j, hj⟩ wr hJs (by rw [hlen]; omega)
   simp only [bwiter.hand_encs] at hy
   simp only [Int.toNat_natCast] at hx0 hx1 hx2 hx3 hx4
   have hwj : wrap64 ((j : Int) - 1) = (j : Int) - 1 := by unfold wrap64; omega
   have hstep : bwiter.hand_from xs.length (xs.length - (j + 1)) ++ [⟨j, hj⟩] = bwiter.hand_from xs.length (xs.length - j) := by
    rw [show xs.length - j = (xs.length - (j + 1)) + 1 by omega, bwiter.hand_from, dif_pos (by omega)]
    congr 3
    omega
   rw [hstep] at hR
   gi_wp2
   refine hR.mono ?_
   rintro e W3 (⟨rfl, hJ3, hk3⟩ | ⟨rfl, hJx3⟩)
   ·gi_wp2
    go_roundw
    case rel => exact ⟨j, by omega, by simp [hwj], hJ3, bwiter.hand_keep_t hnx hk3⟩
    case measure => simp [intOf, hwj]
   ·gi_wp2
    refine bodyPost_ret (results_none rfl _ _ _) rfl ?_
    exact ⟨⟨_, rfl⟩, .inr ⟨_, ⟨xs.length - j, by omega, rfl⟩, hJx3⟩⟩
theorem bwiter.hand_stops (F : Fence) (n : Nat) (h8 : F.fn 151) (hro : F.round = none) (hn : 1 ≤ n) (Bs cap : Nat) (A : Option Addr) (xs : List S67) (w0 w : World) (hreach : xs.length ≤ 1000000) (hC : Kd.C k67 w0 A xs.length xs) (hb : Below w0.heap.size w0 w) (hBs : w.cell? ⟨Bs, 0, none⟩ = some (.slice A xs.length cap)) (hlt : Bs < w.heap.size) :
  SeqStopsK F n Try.prog 151 #[.pointer (some ⟨Bs, 0, none⟩)] (bwiter.hand_encs xs) (bwiter.hand_keep w0.heap.size Bs) (fun ys => ys = bwiter.hand_from xs.length xs.length) (fun pre => ∃ k, k ≤ xs.length ∧ pre = bwiter.hand_from xs.length k) xs.length w := fun l J Jx W hW _ _ hY h0 =>
 bwiter.hand_walk F n w0.heap.size h8 hro hn l Bs cap A xs w0 hreach hC J Jx hY (Nat.le_refl _) W (hb.trans (hW.mono hb.size)) ((hW.cell (p := ⟨Bs, 0, none⟩) hlt).trans hBs) h0
end

/-! ### lifting -/
-- needs: Derived.RangeFuncNested
-- needs: Derived.RangeFuncBound
-- needs: Derived.RangeFuncCalls
-- needs: Derived.RangeFuncLeaves
-- needs: Derived.Shelf.Abstract
-- needs: Derived.Shelf.RegionOpen
-- needs: Derived.OwnWalkIn
-- needs: Derived.TacticsInMore
-- needs: Derived.LoopNIn
-- needs: Derived.LoopIn
-- needs: Derived.OrdersIn
theorem lifting.hand_op {F : Fence} {n : Nat} {P : Program} {l : Nat} {o : Oper} {a : Act} {w : World} {K : Act → World → Prop} {Q : Exit → Act → World → Prop} (hro : F.round = none) (hd : ∀ c, o.op ≠ .defer c) (h : o.wpIn F n P a w K Q) : o.wpIn (F.inRound l) n P a w K Q := by
 unfold Oper.wpIn at *
 refine ⟨h.1, ?_⟩
 have h2 := h.2
 rw [hro, Oper.semAt_none] at h2
 rw [Fence.inRound_round, Oper.semAt_some l _ o hd]
 exact h2
theorem lifting.hand_any {F : Fence} {n : Nat} {P : Program} {l : Nat} {md : Region.Mode} {ops : Array Oper} {Q : Exit → Act → World → Prop} (hro : F.round = none) (hd : ∀ (i : Nat) (o : Oper), ops[i]? = some o → ∀ c, o.op ≠ .defer c) : ∀ (fuel : Nat) (listed : Array Bool) (a : Act) (w : World), wpAnyIn F n P md ops Q fuel listed a w → wpAnyIn (F.inRound l) n P md ops Q fuel listed a w
 | 0, _, _, _, h => h
 | fuel + 1, listed, a, w, h => by
  refine ⟨h.1, fun i hi => ?_⟩
  have h2 := wpOpIn_mono (fun a w => lifting.hand_any (l := l) hro hd fuel (listed.setIfInBounds i true) a w) (h.2 i hi)
  unfold wpOpIn at *
  split
  ·rename_i ho
   simp only [ho] at h2
   exact h2
  ·rename_i o ho
   simp only [ho] at h2
   split
   ·rename_i hw
    simp only [hw, if_true] at h2
    exact lifting.hand_op hro (hd i o ho) h2
   ·rename_i hw
    simp only [hw] at h2
    exact h2

/-! ### impl_liveSets: function 100 -/
-- needs: Derived.RangeFuncNested
-- needs: Derived.RangeFuncBound
-- needs: Derived.RangeFuncCalls
-- needs: Derived.RangeFuncLeaves
-- needs: Derived.Shelf.Abstract
-- needs: Derived.Shelf.RegionOpen
-- needs: Derived.OwnWalkIn
-- needs: Derived.TacticsInMore
-- needs: Derived.LoopNIn
-- needs: Derived.LoopIn
-- needs: Derived.OrdersIn
-- needs: Derived.RegionIn
-- needs: Derived.Deep.RegionWith
section
attribute [local go_sem] Oper.semAt_some
def impl_liveSets.hand_want (L : List Int) : Prop := L.Pairwise (· < ·) ∧ ∀ r ∈ L, 0 ≤ r ∧ r ≤ 5
/-- The instruction i, and what is alive before it. -/
def impl_liveSets.hand_bef (xs : List S67) (i : Nat) (L : List Int) : Option (List Int) := impl_Instr_before.f 1000 (rd_T67 xs (i : Int)).f0 (rd_T67 xs (i : Int)).f1 (rd_T67 xs (i : Int)).f2 (rd_T67 xs (i : Int)).f3 (rd_T67 xs (i : Int)).f4 L
def impl_liveSets.hand_at (xs : List S67) (out : List Int) : Nat → List Int
 | 0 => out
 | m + 1 => (impl_liveSets.hand_bef xs (xs.length - 1 - m) (impl_liveSets.hand_at xs out m)).getD []
def impl_liveSets.hand_ok (xs : List S67) (out : List Int) : Prop := xs.length ≤ 1000 ∧ out.length ≤ 1000 ∧ impl_liveSets.hand_want out ∧ ∀ i, i < xs.length → ∀ L, impl_liveSets.hand_want L → ∃ r, impl_liveSets.hand_bef xs i L = some r ∧ impl_liveSets.hand_want r
open Classical in
noncomputable def impl_liveSets.f (k : Nat) (l0 : List (S67)) (l1 : List Int) : Option ((List (List Int))) := if impl_liveSets.hand_ok l0 l1 then some ((List.range (l0.length + 1)).map fun j => impl_liveSets.hand_at l0 l1 (l0.length - j)) else none
theorem impl_liveSets.mono : ∀ a0 a1 k, LeO (impl_liveSets.f k a0 a1) (impl_liveSets.f (k + 1) a0 a1) := fun _ _ _ => LeO.refl _
/-- The rows of the sets: each of the call's own, no two of them in one block. -/
def impl_liveSets.hand_rows (n base g : Nat) (V : Nat → Value) (Ls : Nat → List Int) (Fo : Nat → Nat) (W : World) : Prop :=
 W.heap[g]? = some (.cells ((List.range (n + 1)).map V).toArray 40 (0, 0)) ∧ ∀ j, j ≤ n → Kd.R (Kd.int .i64) 3 W base (fun k => Fo k = j) (V j) (Ls j)
theorem impl_liveSets.hand_blk {W W' : World} {row : Option Nat} {k t B : Nat} {cells : Array Value} (h : W.heap[k]? = some (.cells cells t (0, 0))) (hg : W.grownBy W' row) (hr : ∀ r, row = some r → B ≤ r ∧ ∃ o : Obj, W.heap[r]? = some o ∧ o.isCells = false) : W'.heap[k]? = some (.cells cells t (0, 0)) :=
 (hg.block k (Array.getElem?_eq_some_iff.1 h).1 (fun e => by
  obtain ⟨_, o, ho, hc⟩ := hr k e.symm
  rw [h] at ho
  cases ho
  cases hc)).trans h
theorem impl_liveSets.hand_rows_kept {n base g : Nat} {V : Nat → Value} {Ls : Nat → List Int} {Fo : Nat → Nat} {W W' : World} {row : Option Nat} (h : impl_liveSets.hand_rows n base g V Ls Fo W) (hg : W.grownBy W' row) (hr : ∀ r, row = some r → ∃ o : Obj, W.heap[r]? = some o ∧ o.isCells = false) : impl_liveSets.hand_rows n base g V Ls Fo W' := by
 obtain ⟨h1, h2⟩ := h
 have hne : ∀ k cells t, W.heap[k]? = some (.cells cells t (0, 0)) → some k ≠ row := fun k cells t hc e => by
  obtain ⟨o, ho, hf⟩ := hr k e.symm
  rw [hc] at ho
  cases ho
  cases hf
 refine ⟨(hg.block g (Array.getElem?_eq_some_iff.1 h1).1 (hne _ _ _ h1)).trans h1, fun j hj => ?_⟩
 refine Kd.R_mono (Kd.R_move (Kd.R_bound (h2 j hj)) (fun k hk => ?_)) (fun _ hk => hk.1)
 obtain ⟨_, _, hlt, q, _, cells, hc⟩ := hk
 exact hg.block k hlt (hne _ _ _ hc)
theorem impl_liveSets.hand_rows_below {n base g : Nat} {V : Nat → Value} {Ls : Nat → List Int} {Fo : Nat → Nat} {W W' : World} (h : impl_liveSets.hand_rows n base g V Ls Fo W) (hb : Below W.heap.size W W') : impl_liveSets.hand_rows n base g V Ls Fo W' :=
 ⟨(hb.block g (Array.getElem?_eq_some_iff.1 h.1).1).trans h.1, fun j hj => Kd.R_below (h.2 j hj) hb⟩
/-- The cell of a row. -/
theorem impl_liveSets.hand_rows_cell {n base g : Nat} {V : Nat → Value} {Ls : Nat → List Int} {Fo : Nat → Nat} {W : World} (h : impl_liveSets.hand_rows n base g V Ls Fo W) (j : Nat) (hj : j ≤ n) : W.cell? ⟨g, j, none⟩ = some (V j) ∧ W.frozen? ⟨g, j, none⟩ = false := by
 have h1 := h.1
 constructor
 ·simp [World.cell?, h1, show j < n + 1 by omega]
 ·simp [World.frozen?, h1]
theorem impl_liveSets.hand_types {w : World} {base g : Nat} {ok : Nat → Prop} {v : Value} {xs : List Int} {cells : Array Value} (h : Kd.R (Kd.int .i64) 3 w base ok v xs) (hb : w.heap[g]? = some (.cells cells 40 (0, 0))) : Kd.R (Kd.int .i64) 3 w base (fun k => ok k ∧ k ≠ g) v xs :=
 Kd.R_mono (Kd.R_bound h) (fun k hk => ⟨hk.1, by
  obtain ⟨_, _, _, q, hq, cells', hc⟩ := hk
  rintro rfl
  rw [hc] at hb
  injection hb with hb
  injection hb with _ hb
  subst hb
  simp [Kd.int, Kd.scalar] at hq⟩)
/-- A row is laid anew. -/
theorem impl_liveSets.hand_rows_put {n base g b0 : Nat} {V : Nat → Value} {Ls : Nat → List Int} {Fo : Nat → Nat} {W : World} (h : impl_liveSets.hand_rows n base g V Ls Fo W) (i : Nat) (hi : i ≤ n) (v : Value) (L : List Int) (hb : base ≤ b0) (hR : Kd.R (Kd.int .i64) 3 W b0 (fun _ => True) v L) (hold : ∀ j, j ≤ n → ∀ k, (V j).ownBlock = some k → k < b0) :
  impl_liveSets.hand_rows n base g (fun j => if j = i then v else V j) (fun j => if j = i then L else Ls j) (fun k => if b0 ≤ k then i else Fo k) (W.setCell ⟨g, i, none⟩ v) := by
 obtain ⟨h1, h2⟩ := h
 have hgl := (Array.getElem?_eq_some_iff.1 h1).1
 refine ⟨?_, fun j hj => ?_⟩
 ·have := blk_set h1 i v
  rw [this]
  congr 2
  apply Array.ext_getElem?
  intro t
  simp only [Array.getElem?_setIfInBounds, List.getElem?_toArray, List.getElem?_map]
  by_cases e : i = t
  ·subst e
   rw [if_pos rfl]
   simp [show i < n + 1 by omega]
  ·rw [if_neg e]
   by_cases ht : t < n + 1
   ·simp [ht, show ¬ t = i from fun h => e h.symm]
   ·simp [ht]
 ·by_cases e : j = i
  ·subst e
   dsimp only
   rw [if_pos rfl, if_pos rfl]
   have h3 := impl_liveSets.hand_types hR h1
   have h4 := Kd.R_bound h3
   refine Kd.R_mono (Kd.R_far (p := ⟨g, j, none⟩) (Kd.R_lower h4 hb) (fun k hk => hk.1.2) v) (fun k hk => ?_)
   rw [if_pos hk.2.1]
  ·dsimp only
   rw [if_neg e, if_neg e]
   have h3 := impl_liveSets.hand_types (h2 j hj) h1
   have h4 := Kd.R_tight rfl h3
   refine Kd.R_mono (Kd.R_far (p := ⟨g, i, none⟩) h4 (fun k hk => h3.1 k hk.symm |>.2) v) (fun k hk => ?_)
   have := hold j hj k hk.symm
   rw [if_neg (by omega)]
   exact (h2 j hj).1 k hk.symm
theorem impl_liveSets.hand_zero (n : Nat) : madeCells (Value.cells (.slice none 0 0)) (n * 1) = ((List.range n).map fun _ => (Value.slice none 0 0)).toArray := by
 rw [Nat.mul_one]
 apply Array.ext
 ·simp [madeCells]
 ·intro i h1 h2
  simp [madeCells, Value.cells, Nat.mod_one]
/-- What a round leaves behind it. -/
theorem impl_liveSets.hand_fin (l0 : List S67) (l1 : List Int) (w w2 W Wd : World) (V : Nat → Value) (Ls : Nat → List Int) (Fo : Nat → Nat) (pre : List (bwiter.handA l0.length)) (x : bwiter.handA l0.length) (rb : List Int)
  (h1 : impl_liveSets.hand_rows l0.length w.heap.size w.heap.size V Ls Fo W) (h2 : ∀ j, impl_liveSets.hand_want (Ls j)) (h3 : ∀ m, m ≤ l0.length → pre = bwiter.hand_from l0.length m → ∀ t, t ≤ m → Ls (l0.length - t) = impl_liveSets.hand_at l0 l1 t)
  (h4 : Boxed W (w.heap.size + 1) 41 (.slice (some ⟨w.heap.size, 0, none⟩) (l0.length + 1) (l0.length + 1))) (h5 : Below w.heap.size w W) (h6 : w2.heap.size < W.heap.size) (h7 : w.heap.size < w2.heap.size) {B : Nat} (hB : w.heap.size + 2 ≤ B) (hWd : Wd = W.drew) (hbef : impl_liveSets.hand_bef l0 x.1 (Ls (x.1 + 1)) = some rb) (hwr : impl_liveSets.hand_want rb) :
  ∀ (W1 : World) (Ar : Option Addr) (cr : Nat) (r : List Int), Below W.drew.heap.size W.drew W1 → Kd.R (Kd.int .i64) 3 W1 W.drew.heap.size (fun _ => True) (.slice Ar r.length cr) r → rb = r → impl_liveSets.hand_want r →
   KeepsFrom B W (W1.setCell ⟨w.heap.size, x.1, none⟩ (.slice Ar r.length cr)) ∧ bwiter.hand_keep w.heap.size w2.heap.size W (W1.setCell ⟨w.heap.size, x.1, none⟩ (.slice Ar r.length cr)) ∧
   (∃ (V : Nat → Value) (Ls : Nat → List Int) (Fo : Nat → Nat), impl_liveSets.hand_rows l0.length w.heap.size w.heap.size V Ls Fo (W1.setCell ⟨w.heap.size, x.1, none⟩ (.slice Ar r.length cr)) ∧ (∀ j, impl_liveSets.hand_want (Ls j)) ∧ ∀ m, m ≤ l0.length → pre ++ [x] = bwiter.hand_from l0.length m → ∀ t, t ≤ m → Ls (l0.length - t) = impl_liveSets.hand_at l0 l1 t) ∧ Boxed (W1.setCell ⟨w.heap.size, x.1, none⟩ (.slice Ar r.length cr)) (w.heap.size + 1) 41 (.slice (some ⟨w.heap.size, 0, none⟩) (l0.length + 1) (l0.length + 1)) ∧ Below w.heap.size w (W1.setCell ⟨w.heap.size, x.1, none⟩ (.slice Ar r.length cr)) ∧ w2.heap.size < (W1.setCell ⟨w.heap.size, x.1, none⟩ (.slice Ar r.length cr)).heap.size := by
 intro W1 Ar cr r hb hR hr hw
 subst hr
 have hx := x.2
 have hb1 : Below W.heap.size W W1 := ⟨hb.os, hb.tape, hb.output, hb.size, hb.block⟩
 have hgl : w.heap.size < W.heap.size := (Array.getElem?_eq_some_iff.1 h1.1).1
 have hset : ∀ k, k ≠ w.heap.size → (W1.setCell ⟨w.heap.size, x.1, none⟩ (.slice Ar rb.length cr)).heap[k]? = W1.heap[k]? := fun k hk => Below.heap_setCell W1 ⟨w.heap.size, x.1, none⟩ _ k hk
 have hsz : (W1.setCell ⟨w.heap.size, x.1, none⟩ (.slice Ar rb.length cr)).heap.size = W1.heap.size := by simp [World.setCell]
 have hB1 : Below w.heap.size W (W1.setCell ⟨w.heap.size, x.1, none⟩ (.slice Ar rb.length cr)) := (hb1.mono h5.size).setCell (p := ⟨w.heap.size, x.1, none⟩) (Nat.le_refl _) _
 have hrows := impl_liveSets.hand_rows_put (b0 := W.heap.size) (impl_liveSets.hand_rows_below h1 hb1) x.1 (by omega) (.slice Ar rb.length cr) rb h5.size hR (fun j hj k hk => ((Kd.R_bound (h1.2 j hj)).1 k hk).2.2.1)
 refine ⟨⟨by rw [hsz]; exact hb1.size, fun k o hk ho _ => (hset k (by omega)).trans ((hb1.block k (Array.getElem?_eq_some_iff.1 ho).1).trans ho)⟩, ⟨hB1, (hset _ (fun e => ?_)).trans (hb1.block _ h6)⟩, ⟨_, _, _, hrows, fun j => ?_, fun m hm e t ht => ?_⟩, (hset _ (by omega)).trans ((hb1.block _ h4.lt).trans h4), h5.trans hB1, by rw [hsz]; exact Nat.lt_of_lt_of_le h6 hb1.size⟩
 ·omega
 ·split
  ·exact hw
  ·exact h2 j
 ·cases m with
  | zero => cases pre <;> cases e
  | succ m =>
   rw [bwiter.hand_from, dif_pos (by omega)] at e
   obtain ⟨e1, e2⟩ := List.append_inj' e rfl
   have e3 : x.1 = l0.length - 1 - m := by
    have := congrArg (fun l => l.map (fun y : bwiter.handA l0.length => y.1)) e2
    simpa using this
   by_cases ht2 : t = m + 1
   ·subst ht2
    rw [if_pos (by omega)]
    have h7 := h3 m (by omega) e1 m (Nat.le_refl _)
    rw [show l0.length - m = x.1 + 1 by omega] at h7
    show rb = (impl_liveSets.hand_bef l0 (l0.length - 1 - m) (impl_liveSets.hand_at l0 l1 m)).getD []
    rw [← e3, ← h7, hbef]
    rfl
   ·rw [if_neg (by omega)]
    exact h3 m (by omega) e1 t (by omega)
/-- The loop's two codes. -/
def impl_liveSets.hand_pick (f : Func) : Option (Code × Code) := match f.body with
 | some (.seq _ (.seq _ (.seq _ (.seq (.seq _ (.block _ (.rangeFunc _ _ a b))) _)))) => some (a, b)
 | _ => none
def impl_liveSets.hand_post (Post : World → Prop) : Exit → Act → World → Prop
 | .normal, _, w => Post w
 | _, _, _ => False
/-- The frame of a round. -/
abbrev impl_liveSets.hand_act (l0 : List S67) (A0 A1 Ao : Option Addr) (c0 n1 c1 co g Bs Bx : Nat) (x : bwiter.handA l0.length) : Act := { tmps := #[.slice A0 l0.length c0, .slice A1 n1 c1, undef, undef, .slice none 0 0, .pointer (some ⟨g + 1, 0, none⟩), .int .i64 (x.1 : Int), .pointer (some ⟨Bx, 0, none⟩), .slice A0 l0.length c0, .int .i64 (l0.length : Int), .int .i64 ((l0.length : Int) + 1), .slice (some ⟨g, 0, none⟩) (l0.length + 1) (l0.length + 1), .slice (some ⟨g, 0, none⟩) (l0.length + 1) (l0.length + 1), .slice A0 l0.length c0, .int .i64 (l0.length : Int), .slice A1 n1 c1, .slice Ao n1 co, .pointer (some ⟨g, l0.length, none⟩), .slice A0 l0.length c0, .func (.func 151) #[] #[.pointer (some ⟨Bs, 0, none⟩)], .int .i64 (x.1 : Int), .agg #[.string (rd_T67 l0 (x.1 : Int)).f0, .int .i64 (rd_T67 l0 (x.1 : Int)).f1, .int .i64 (rd_T67 l0 (x.1 : Int)).f2, .int .i64 (rd_T67 l0 (x.1 : Int)).f3, .int .i64 (rd_T67 l0 (x.1 : Int)).f4], undef, undef, undef, undef, undef, undef, undef, undef, undef, undef, undef], defers := [] }
set_option maxRecDepth 100000 in
set_option maxHeartbeats 16000000 in
theorem impl_liveSets.hand_body {As Bo : Code} (hp : impl_liveSets.hand_pick Try.f100 = some (As, Bo)) (l0 : List S67) (A0 A1 Ao : Option Addr) (c0 n1 c1 co g Bs Bx l : Nat) (x : bwiter.handA l0.length) (W : World) (vx : Value) (Ai : Option Addr) (ci : Nat) (Li rb : List Int) (Post : World → Prop)
  (hcb : W.cell? ⟨g + 1, 0, none⟩ = some (.slice (some ⟨g, 0, none⟩) (l0.length + 1) (l0.length + 1))) (hblt : g + 1 < W.heap.size) (hcx : W.cell? ⟨g, x.1, none⟩ = some vx) (hfx : W.frozen? ⟨g, x.1, none⟩ = false) (hcy : W.cell? ⟨g, x.1 + 1, none⟩ = some (.slice Ai Li.length ci)) (hli : Li.length ≤ ci) (hCi : Kd.C (Kd.int .i64) W Ai Li.length Li)
  (hx2 : W.heap[Bx]? = some (.cells #[.string (rd_T67 l0 (x.1 : Int)).f0, .int .i64 (rd_T67 l0 (x.1 : Int)).f1, .int .i64 (rd_T67 l0 (x.1 : Int)).f2, .int .i64 (rd_T67 l0 (x.1 : Int)).f3, .int .i64 (rd_T67 l0 (x.1 : Int)).f4] 67 (0, 0))) (hn : l0.length ≤ 1000) (hbef : impl_liveSets.hand_bef l0 x.1 Li = some rb)
  (hfin : ∀ (W1 : World) (Ar : Option Addr) (cr : Nat), Below W.drew.heap.size W.drew W1 → Kd.R (Kd.int .i64) 3 W1 W.drew.heap.size (fun _ => True) (.slice Ar rb.length cr) rb → Post (W1.setCell ⟨g, x.1, none⟩ (.slice Ar rb.length cr))) :
  Bo.wpIn (Fence.wide.inRound l) 6 Try.prog (impl_liveSets.hand_post Post) (impl_liveSets.hand_act l0 A0 A1 Ao c0 n1 c1 co g Bs Bx x) W := by
 unfold impl_liveSets.hand_pick Try.f100 at hp
 dsimp only at hp
 injection hp with hp
 injection hp with hp1 hp2
 subst hp2
 clear hp1
 have hx := x.2
 have hxi : (x.1 : Int) < (l0.length : Int) := by omega
 have hxn : (x.1 : Int) < (l0.length : Int) + 1 := by omega
 have hxm : (x.1 : Int) + 1 < (l0.length : Int) + 1 := by omega
 have hwx : wrap64 ((x.1 : Int) + 1) = (x.1 : Int) + 1 := by unfold wrap64; omega
 have hwx2 : IntKind.i64.wrap ((x.1 : Int) + 1) = (x.1 : Int) + 1 := by unfold IntKind.wrap; (try simp [IntKind.signed, IntKind.bits]); omega
 have htn : ((x.1 : Int) + 1).toNat = x.1 + 1 := by omega
 have hglt : g < W.heap.size := by omega
 have hd0 : W.cell? ⟨Bx, 0, none⟩ = some (.string (rd_T67 l0 (x.1 : Int)).f0) := (zI hx2 0).trans rfl
 have hd1 : W.cell? ⟨Bx, 1, none⟩ = some (.int .i64 (rd_T67 l0 (x.1 : Int)).f1) := (zI hx2 1).trans rfl
 have hd2 : W.cell? ⟨Bx, 2, none⟩ = some (.int .i64 (rd_T67 l0 (x.1 : Int)).f2) := (zI hx2 2).trans rfl
 have hd3 : W.cell? ⟨Bx, 3, none⟩ = some (.int .i64 (rd_T67 l0 (x.1 : Int)).f3) := (zI hx2 3).trans rfl
 have hd4 : W.cell? ⟨Bx, 4, none⟩ = some (.int .i64 (rd_T67 l0 (x.1 : Int)).f4) := (zI hx2 4).trans rfl
 clear hx2
 gi_wp2
 refine wpIn_region_any (by kernel_rfl) (lifting.hand_any rfl ?_ _ _ _ _ ?_)
 ·intro i o hi c
  rcases i with _ | _ | _ | _ | _ | _ | _ | _ | _ | _ | _ | i <;> simp at hi <;> (subst hi; intro h; cases h)
 change wpAnyIn _ _ _ _ _ _ _ _ _ (World.drew _)
 refine wpAnyIn_take (i := 1) (v := .int .i64 (x.1 : Int)) rfl rfl (by kernel_rfl) (by kernel_rfl) (by kernel_rfl) (fun _ _ _ h => h) ⟨Or.inl ⟨by rfl, by intro w_; go_simp⟩, fun _ => rfl⟩ ?_
 refine wpAnyIn_take (i := 4) (v := .int .i64 (x.1 : Int)) rfl rfl (by kernel_rfl) (by kernel_rfl) (by kernel_rfl) (fun _ _ _ h => h) ⟨Or.inl ⟨by rfl, by intro w_; go_simp⟩, fun _ => rfl⟩ ?_
 refine wpAnyIn_take (i := 5) (v := .int .i64 ((x.1 : Int) + 1)) rfl rfl (by kernel_rfl) (by kernel_rfl) (by kernel_rfl) (fun _ _ _ h => h) ⟨Or.inl ⟨by rfl, by intro w_; go_simp⟩, fun _ => rfl⟩ ?_
 refine wpAnyIn_ready (rs := [0, 2, 3]) (by kernel_rfl) (by simp) ?_
 refine AllReadyIn.cons rfl (fun K hK => ?_) ?_
 ·skip
  go_simp
  refine hK _ _ ?_
  clear hK K
  refine wpAnyIn_ready (rs := [2, 3]) (by kernel_rfl) (by simp) ?_
  refine AllReadyIn.cons rfl (fun K hK => ?_) ?_
  ·skip
   go_simp
   refine hK _ _ ?_
   clear hK K
   refine wpAnyIn_ready (rs := [3]) (by kernel_rfl) (by simp) ?_
   refine AllReadyIn.cons rfl (fun K hK => ?_) ?_
   ·skip
    go_simp
    refine hK _ _ ?_
    clear hK K
    refine wpAnyIn_take (i := 6) (v := .pointer (some ⟨g, x.1 + 1, none⟩)) rfl rfl (by kernel_rfl) (by kernel_rfl) (by kernel_rfl) (fun _ _ _ h => h) ⟨Or.inl ⟨by rfl, by intro w_; go_simp <;> (intro h_; omega)⟩, fun _ => rfl⟩ ?_
    refine wpAnyIn_ready (rs := [7]) (by kernel_rfl) (by simp) ?_
    refine AllReadyIn.cons rfl (fun K hK => ?_) ?_
    ·skip
     go_simp
     refine hK _ _ ?_
     clear hK K
     refine wpAnyIn_ready (rs := [8]) (by kernel_rfl) (by simp) ?_
     refine AllReadyIn.cons rfl (fun K hK => ?_) ?_
     ·skip
      go_simp
      refine ⟨trivial, ?_⟩
      refine (callsIn_wide.2 (impl_Instr_before.calls 1000 _ _ _ _ _ Ai ci Li rb _ ?_ hli hbef)).mono ?_
      ·exact hCi
      rintro e w7 ⟨v7, rfl, hv7, hb7⟩
      obtain ⟨Ar, cr, rfl⟩ := Kd.R_slice hv7
      have hcb7 := (hb7.cell (p := ⟨g + 1, 0, none⟩) hblt).trans hcb
      have hcx7 := (hb7.cell (p := ⟨g, x.1, none⟩) hglt).trans hcx
      have hfx7 : w7.frozen? ⟨g, x.1, none⟩ = false := (World.frozen?_of_block (hb7.block _ hglt)).trans hfx
      refine hK _ _ ?_
      clear hK K
      refine wpAnyIn_take (i := 9) (v := .pointer (some ⟨g, x.1, none⟩)) rfl rfl (by kernel_rfl) (by kernel_rfl) (by kernel_rfl) (fun _ _ _ h => h) ⟨Or.inl ⟨by rfl, by intro w_; go_simp <;> (intro h_; omega)⟩, fun _ => rfl⟩ ?_
      refine wpAnyIn_ready (rs := [10]) (by kernel_rfl) (by simp) ?_
      refine AllReadyIn.cons rfl (fun K hK => ?_) ?_
      ·skip
       go_simp
       refine hK _ _ ?_
       clear hK K
       refine wpAnyIn_done (by kernel_rfl) ?_ _
       exact hfin _ _ _ hb7 hv7
      exact AllReadyIn.nil
     exact AllReadyIn.nil
    exact AllReadyIn.nil
   exact AllReadyIn.nil
  refine AllReadyIn.cons rfl (fun K hK => ?_) ?_
  ·skip
   go_simp
   refine hK _ _ ?_
   clear hK K
   refine wpAnyIn_take (i := 6) (v := .pointer (some ⟨g, x.1 + 1, none⟩)) rfl rfl (by kernel_rfl) (by kernel_rfl) (by kernel_rfl) (fun _ _ _ h => h) ⟨Or.inl ⟨by rfl, by intro w_; go_simp <;> (intro h_; omega)⟩, fun _ => rfl⟩ ?_
   refine wpAnyIn_ready (rs := [2, 7]) (by kernel_rfl) (by simp) ?_
   refine AllReadyIn.cons rfl (fun K hK => ?_) ?_
   ·skip
    go_simp
    refine hK _ _ ?_
    clear hK K
    refine wpAnyIn_ready (rs := [7]) (by kernel_rfl) (by simp) ?_
    refine AllReadyIn.cons rfl (fun K hK => ?_) ?_
    ·skip
     go_simp
     refine hK _ _ ?_
     clear hK K
     refine wpAnyIn_ready (rs := [8]) (by kernel_rfl) (by simp) ?_
     refine AllReadyIn.cons rfl (fun K hK => ?_) ?_
     ·skip
      go_simp
      refine ⟨trivial, ?_⟩
      refine (callsIn_wide.2 (impl_Instr_before.calls 1000 _ _ _ _ _ Ai ci Li rb _ ?_ hli hbef)).mono ?_
      ·exact hCi
      rintro e w7 ⟨v7, rfl, hv7, hb7⟩
      obtain ⟨Ar, cr, rfl⟩ := Kd.R_slice hv7
      have hcb7 := (hb7.cell (p := ⟨g + 1, 0, none⟩) hblt).trans hcb
      have hcx7 := (hb7.cell (p := ⟨g, x.1, none⟩) hglt).trans hcx
      have hfx7 : w7.frozen? ⟨g, x.1, none⟩ = false := (World.frozen?_of_block (hb7.block _ hglt)).trans hfx
      refine hK _ _ ?_
      clear hK K
      refine wpAnyIn_take (i := 9) (v := .pointer (some ⟨g, x.1, none⟩)) rfl rfl (by kernel_rfl) (by kernel_rfl) (by kernel_rfl) (fun _ _ _ h => h) ⟨Or.inl ⟨by rfl, by intro w_; go_simp <;> (intro h_; omega)⟩, fun _ => rfl⟩ ?_
      refine wpAnyIn_ready (rs := [10]) (by kernel_rfl) (by simp) ?_
      refine AllReadyIn.cons rfl (fun K hK => ?_) ?_
      ·skip
       go_simp
       refine hK _ _ ?_
       clear hK K
       refine wpAnyIn_done (by kernel_rfl) ?_ _
       exact hfin _ _ _ hb7 hv7
      exact AllReadyIn.nil
     exact AllReadyIn.nil
    exact AllReadyIn.nil
   refine AllReadyIn.cons rfl (fun K hK => ?_) ?_
   ·skip
    go_simp
    refine hK _ _ ?_
    clear hK K
    refine wpAnyIn_ready (rs := [2]) (by kernel_rfl) (by simp) ?_
    refine AllReadyIn.cons rfl (fun K hK => ?_) ?_
    ·skip
     go_simp
     refine hK _ _ ?_
     clear hK K
     refine wpAnyIn_ready (rs := [8]) (by kernel_rfl) (by simp) ?_
     refine AllReadyIn.cons rfl (fun K hK => ?_) ?_
     ·skip
      go_simp
      refine ⟨trivial, ?_⟩
      refine (callsIn_wide.2 (impl_Instr_before.calls 1000 _ _ _ _ _ Ai ci Li rb _ ?_ hli hbef)).mono ?_
      ·exact hCi
      rintro e w7 ⟨v7, rfl, hv7, hb7⟩
      obtain ⟨Ar, cr, rfl⟩ := Kd.R_slice hv7
      have hcb7 := (hb7.cell (p := ⟨g + 1, 0, none⟩) hblt).trans hcb
      have hcx7 := (hb7.cell (p := ⟨g, x.1, none⟩) hglt).trans hcx
      have hfx7 : w7.frozen? ⟨g, x.1, none⟩ = false := (World.frozen?_of_block (hb7.block _ hglt)).trans hfx
      refine hK _ _ ?_
      clear hK K
      refine wpAnyIn_take (i := 9) (v := .pointer (some ⟨g, x.1, none⟩)) rfl rfl (by kernel_rfl) (by kernel_rfl) (by kernel_rfl) (fun _ _ _ h => h) ⟨Or.inl ⟨by rfl, by intro w_; go_simp <;> (intro h_; omega)⟩, fun _ => rfl⟩ ?_
      refine wpAnyIn_ready (rs := [10]) (by kernel_rfl) (by simp) ?_
      refine AllReadyIn.cons rfl (fun K hK => ?_) ?_
      ·skip
       go_simp
       refine hK _ _ ?_
       clear hK K
       refine wpAnyIn_done (by kernel_rfl) ?_ _
       exact hfin _ _ _ hb7 hv7
      exact AllReadyIn.nil
     exact AllReadyIn.nil
    exact AllReadyIn.nil
   exact AllReadyIn.nil
  exact AllReadyIn.nil
 refine AllReadyIn.cons rfl (fun K hK => ?_) ?_
 ·skip
  go_simp
  refine hK _ _ ?_
  clear hK K
  refine wpAnyIn_ready (rs := [0, 3]) (by kernel_rfl) (by simp) ?_
  refine AllReadyIn.cons rfl (fun K hK => ?_) ?_
  ·skip
   go_simp
   refine hK _ _ ?_
   clear hK K
   refine wpAnyIn_ready (rs := [3]) (by kernel_rfl) (by simp) ?_
   refine AllReadyIn.cons rfl (fun K hK => ?_) ?_
   ·skip
    go_simp
    refine hK _ _ ?_
    clear hK K
    refine wpAnyIn_take (i := 6) (v := .pointer (some ⟨g, x.1 + 1, none⟩)) rfl rfl (by kernel_rfl) (by kernel_rfl) (by kernel_rfl) (fun _ _ _ h => h) ⟨Or.inl ⟨by rfl, by intro w_; go_simp <;> (intro h_; omega)⟩, fun _ => rfl⟩ ?_
    refine wpAnyIn_ready (rs := [7]) (by kernel_rfl) (by simp) ?_
    refine AllReadyIn.cons rfl (fun K hK => ?_) ?_
    ·skip
     go_simp
     refine hK _ _ ?_
     clear hK K
     refine wpAnyIn_ready (rs := [8]) (by kernel_rfl) (by simp) ?_
     refine AllReadyIn.cons rfl (fun K hK => ?_) ?_
     ·skip
      go_simp
      refine ⟨trivial, ?_⟩
      refine (callsIn_wide.2 (impl_Instr_before.calls 1000 _ _ _ _ _ Ai ci Li rb _ ?_ hli hbef)).mono ?_
      ·exact hCi
      rintro e w7 ⟨v7, rfl, hv7, hb7⟩
      obtain ⟨Ar, cr, rfl⟩ := Kd.R_slice hv7
      have hcb7 := (hb7.cell (p := ⟨g + 1, 0, none⟩) hblt).trans hcb
      have hcx7 := (hb7.cell (p := ⟨g, x.1, none⟩) hglt).trans hcx
      have hfx7 : w7.frozen? ⟨g, x.1, none⟩ = false := (World.frozen?_of_block (hb7.block _ hglt)).trans hfx
      refine hK _ _ ?_
      clear hK K
      refine wpAnyIn_take (i := 9) (v := .pointer (some ⟨g, x.1, none⟩)) rfl rfl (by kernel_rfl) (by kernel_rfl) (by kernel_rfl) (fun _ _ _ h => h) ⟨Or.inl ⟨by rfl, by intro w_; go_simp <;> (intro h_; omega)⟩, fun _ => rfl⟩ ?_
      refine wpAnyIn_ready (rs := [10]) (by kernel_rfl) (by simp) ?_
      refine AllReadyIn.cons rfl (fun K hK => ?_) ?_
      ·skip
       go_simp
       refine hK _ _ ?_
       clear hK K
       refine wpAnyIn_done (by kernel_rfl) ?_ _
       exact hfin _ _ _ hb7 hv7
      exact AllReadyIn.nil
     exact AllReadyIn.nil
    exact AllReadyIn.nil
   exact AllReadyIn.nil
  refine AllReadyIn.cons rfl (fun K hK => ?_) ?_
  ·skip
   go_simp
   refine hK _ _ ?_
   clear hK K
   refine wpAnyIn_take (i := 6) (v := .pointer (some ⟨g, x.1 + 1, none⟩)) rfl rfl (by kernel_rfl) (by kernel_rfl) (by kernel_rfl) (fun _ _ _ h => h) ⟨Or.inl ⟨by rfl, by intro w_; go_simp <;> (intro h_; omega)⟩, fun _ => rfl⟩ ?_
   refine wpAnyIn_ready (rs := [0, 7]) (by kernel_rfl) (by simp) ?_
   refine AllReadyIn.cons rfl (fun K hK => ?_) ?_
   ·skip
    go_simp
    refine hK _ _ ?_
    clear hK K
    refine wpAnyIn_ready (rs := [7]) (by kernel_rfl) (by simp) ?_
    refine AllReadyIn.cons rfl (fun K hK => ?_) ?_
    ·skip
     go_simp
     refine hK _ _ ?_
     clear hK K
     refine wpAnyIn_ready (rs := [8]) (by kernel_rfl) (by simp) ?_
     refine AllReadyIn.cons rfl (fun K hK => ?_) ?_
     ·skip
      go_simp
      refine ⟨trivial, ?_⟩
      refine (callsIn_wide.2 (impl_Instr_before.calls 1000 _ _ _ _ _ Ai ci Li rb _ ?_ hli hbef)).mono ?_
      ·exact hCi
      rintro e w7 ⟨v7, rfl, hv7, hb7⟩
      obtain ⟨Ar, cr, rfl⟩ := Kd.R_slice hv7
      have hcb7 := (hb7.cell (p := ⟨g + 1, 0, none⟩) hblt).trans hcb
      have hcx7 := (hb7.cell (p := ⟨g, x.1, none⟩) hglt).trans hcx
      have hfx7 : w7.frozen? ⟨g, x.1, none⟩ = false := (World.frozen?_of_block (hb7.block _ hglt)).trans hfx
      refine hK _ _ ?_
      clear hK K
      refine wpAnyIn_take (i := 9) (v := .pointer (some ⟨g, x.1, none⟩)) rfl rfl (by kernel_rfl) (by kernel_rfl) (by kernel_rfl) (fun _ _ _ h => h) ⟨Or.inl ⟨by rfl, by intro w_; go_simp <;> (intro h_; omega)⟩, fun _ => rfl⟩ ?_
      refine wpAnyIn_ready (rs := [10]) (by kernel_rfl) (by simp) ?_
      refine AllReadyIn.cons rfl (fun K hK => ?_) ?_
      ·skip
       go_simp
       refine hK _ _ ?_
       clear hK K
       refine wpAnyIn_done (by kernel_rfl) ?_ _
       exact hfin _ _ _ hb7 hv7
      exact AllReadyIn.nil
     exact AllReadyIn.nil
    exact AllReadyIn.nil
   refine AllReadyIn.cons rfl (fun K hK => ?_) ?_
   ·skip
    go_simp
    refine hK _ _ ?_
    clear hK K
    refine wpAnyIn_ready (rs := [0, 8]) (by kernel_rfl) (by simp) ?_
    refine AllReadyIn.cons rfl (fun K hK => ?_) ?_
    ·skip
     go_simp
     refine hK _ _ ?_
     clear hK K
     refine wpAnyIn_ready (rs := [8]) (by kernel_rfl) (by simp) ?_
     refine AllReadyIn.cons rfl (fun K hK => ?_) ?_
     ·skip
      go_simp
      refine ⟨trivial, ?_⟩
      refine (callsIn_wide.2 (impl_Instr_before.calls 1000 _ _ _ _ _ Ai ci Li rb _ ?_ hli hbef)).mono ?_
      ·exact hCi
      rintro e w7 ⟨v7, rfl, hv7, hb7⟩
      obtain ⟨Ar, cr, rfl⟩ := Kd.R_slice hv7
      have hcb7 := (hb7.cell (p := ⟨g + 1, 0, none⟩) hblt).trans hcb
      have hcx7 := (hb7.cell (p := ⟨g, x.1, none⟩) hglt).trans hcx
      have hfx7 : w7.frozen? ⟨g, x.1, none⟩ = false := (World.frozen?_of_block (hb7.block _ hglt)).trans hfx
      refine hK _ _ ?_
      clear hK K
      refine wpAnyIn_take (i := 9) (v := .pointer (some ⟨g, x.1, none⟩)) rfl rfl (by kernel_rfl) (by kernel_rfl) (by kernel_rfl) (fun _ _ _ h => h) ⟨Or.inl ⟨by rfl, by intro w_; go_simp <;> (intro h_; omega)⟩, fun _ => rfl⟩ ?_
      refine wpAnyIn_ready (rs := [10]) (by kernel_rfl) (by simp) ?_
      refine AllReadyIn.cons rfl (fun K hK => ?_) ?_
      ·skip
       go_simp
       refine hK _ _ ?_
       clear hK K
       refine wpAnyIn_done (by kernel_rfl) ?_ _
       exact hfin _ _ _ hb7 hv7
      exact AllReadyIn.nil
     exact AllReadyIn.nil
    refine AllReadyIn.cons rfl (fun K hK => ?_) ?_
    ·skip
     go_simp
     refine ⟨trivial, ?_⟩
     refine (callsIn_wide.2 (impl_Instr_before.calls 1000 _ _ _ _ _ Ai ci Li rb _ ?_ hli hbef)).mono ?_
     ·exact hCi
     rintro e w7 ⟨v7, rfl, hv7, hb7⟩
     obtain ⟨Ar, cr, rfl⟩ := Kd.R_slice hv7
     have hcb7 := (hb7.cell (p := ⟨g + 1, 0, none⟩) hblt).trans hcb
     have hcx7 := (hb7.cell (p := ⟨g, x.1, none⟩) hglt).trans hcx
     have hfx7 : w7.frozen? ⟨g, x.1, none⟩ = false := (World.frozen?_of_block (hb7.block _ hglt)).trans hfx
     refine hK _ _ ?_
     clear hK K
     refine wpAnyIn_ready (rs := [0]) (by kernel_rfl) (by simp) ?_
     refine AllReadyIn.cons rfl (fun K hK => ?_) ?_
     ·skip
      go_simp
      refine hK _ _ ?_
      clear hK K
      refine wpAnyIn_take (i := 9) (v := .pointer (some ⟨g, x.1, none⟩)) rfl rfl (by kernel_rfl) (by kernel_rfl) (by kernel_rfl) (fun _ _ _ h => h) ⟨Or.inl ⟨by rfl, by intro w_; go_simp <;> (intro h_; omega)⟩, fun _ => rfl⟩ ?_
      refine wpAnyIn_ready (rs := [10]) (by kernel_rfl) (by simp) ?_
      refine AllReadyIn.cons rfl (fun K hK => ?_) ?_
      ·skip
       go_simp
       refine hK _ _ ?_
       clear hK K
       refine wpAnyIn_done (by kernel_rfl) ?_ _
       exact hfin _ _ _ hb7 hv7
      exact AllReadyIn.nil
     exact AllReadyIn.nil
    exact AllReadyIn.nil
   exact AllReadyIn.nil
  exact AllReadyIn.nil
 refine AllReadyIn.cons rfl (fun K hK => ?_) ?_
 ·skip
  go_simp
  refine hK _ _ ?_
  clear hK K
  refine wpAnyIn_take (i := 6) (v := .pointer (some ⟨g, x.1 + 1, none⟩)) rfl rfl (by kernel_rfl) (by kernel_rfl) (by kernel_rfl) (fun _ _ _ h => h) ⟨Or.inl ⟨by rfl, by intro w_; go_simp <;> (intro h_; omega)⟩, fun _ => rfl⟩ ?_
  refine wpAnyIn_ready (rs := [0, 2, 7]) (by kernel_rfl) (by simp) ?_
  refine AllReadyIn.cons rfl (fun K hK => ?_) ?_
  ·skip
   go_simp
   refine hK _ _ ?_
   clear hK K
   refine wpAnyIn_ready (rs := [2, 7]) (by kernel_rfl) (by simp) ?_
   refine AllReadyIn.cons rfl (fun K hK => ?_) ?_
   ·skip
    go_simp
    refine hK _ _ ?_
    clear hK K
    refine wpAnyIn_ready (rs := [7]) (by kernel_rfl) (by simp) ?_
    refine AllReadyIn.cons rfl (fun K hK => ?_) ?_
    ·skip
     go_simp
     refine hK _ _ ?_
     clear hK K
     refine wpAnyIn_ready (rs := [8]) (by kernel_rfl) (by simp) ?_
     refine AllReadyIn.cons rfl (fun K hK => ?_) ?_
     ·skip
      go_simp
      refine ⟨trivial, ?_⟩
      refine (callsIn_wide.2 (impl_Instr_before.calls 1000 _ _ _ _ _ Ai ci Li rb _ ?_ hli hbef)).mono ?_
      ·exact hCi
      rintro e w7 ⟨v7, rfl, hv7, hb7⟩
      obtain ⟨Ar, cr, rfl⟩ := Kd.R_slice hv7
      have hcb7 := (hb7.cell (p := ⟨g + 1, 0, none⟩) hblt).trans hcb
      have hcx7 := (hb7.cell (p := ⟨g, x.1, none⟩) hglt).trans hcx
      have hfx7 : w7.frozen? ⟨g, x.1, none⟩ = false := (World.frozen?_of_block (hb7.block _ hglt)).trans hfx
      refine hK _ _ ?_
      clear hK K
      refine wpAnyIn_take (i := 9) (v := .pointer (some ⟨g, x.1, none⟩)) rfl rfl (by kernel_rfl) (by kernel_rfl) (by kernel_rfl) (fun _ _ _ h => h) ⟨Or.inl ⟨by rfl, by intro w_; go_simp <;> (intro h_; omega)⟩, fun _ => rfl⟩ ?_
      refine wpAnyIn_ready (rs := [10]) (by kernel_rfl) (by simp) ?_
      refine AllReadyIn.cons rfl (fun K hK => ?_) ?_
      ·skip
       go_simp
       refine hK _ _ ?_
       clear hK K
       refine wpAnyIn_done (by kernel_rfl) ?_ _
       exact hfin _ _ _ hb7 hv7
      exact AllReadyIn.nil
     exact AllReadyIn.nil
    exact AllReadyIn.nil
   refine AllReadyIn.cons rfl (fun K hK => ?_) ?_
   ·skip
    go_simp
    refine hK _ _ ?_
    clear hK K
    refine wpAnyIn_ready (rs := [2]) (by kernel_rfl) (by simp) ?_
    refine AllReadyIn.cons rfl (fun K hK => ?_) ?_
    ·skip
     go_simp
     refine hK _ _ ?_
     clear hK K
     refine wpAnyIn_ready (rs := [8]) (by kernel_rfl) (by simp) ?_
     refine AllReadyIn.cons rfl (fun K hK => ?_) ?_
     ·skip
      go_simp
      refine ⟨trivial, ?_⟩
      refine (callsIn_wide.2 (impl_Instr_before.calls 1000 _ _ _ _ _ Ai ci Li rb _ ?_ hli hbef)).mono ?_
      ·exact hCi
      rintro e w7 ⟨v7, rfl, hv7, hb7⟩
      obtain ⟨Ar, cr, rfl⟩ := Kd.R_slice hv7
      have hcb7 := (hb7.cell (p := ⟨g + 1, 0, none⟩) hblt).trans hcb
      have hcx7 := (hb7.cell (p := ⟨g, x.1, none⟩) hglt).trans hcx
      have hfx7 : w7.frozen? ⟨g, x.1, none⟩ = false := (World.frozen?_of_block (hb7.block _ hglt)).trans hfx
      refine hK _ _ ?_
      clear hK K
      refine wpAnyIn_take (i := 9) (v := .pointer (some ⟨g, x.1, none⟩)) rfl rfl (by kernel_rfl) (by kernel_rfl) (by kernel_rfl) (fun _ _ _ h => h) ⟨Or.inl ⟨by rfl, by intro w_; go_simp <;> (intro h_; omega)⟩, fun _ => rfl⟩ ?_
      refine wpAnyIn_ready (rs := [10]) (by kernel_rfl) (by simp) ?_
      refine AllReadyIn.cons rfl (fun K hK => ?_) ?_
      ·skip
       go_simp
       refine hK _ _ ?_
       clear hK K
       refine wpAnyIn_done (by kernel_rfl) ?_ _
       exact hfin _ _ _ hb7 hv7
      exact AllReadyIn.nil
     exact AllReadyIn.nil
    exact AllReadyIn.nil
   exact AllReadyIn.nil
  refine AllReadyIn.cons rfl (fun K hK => ?_) ?_
  ·skip
   go_simp
   refine hK _ _ ?_
   clear hK K
   refine wpAnyIn_ready (rs := [0, 7]) (by kernel_rfl) (by simp) ?_
   refine AllReadyIn.cons rfl (fun K hK => ?_) ?_
   ·skip
    go_simp
    refine hK _ _ ?_
    clear hK K
    refine wpAnyIn_ready (rs := [7]) (by kernel_rfl) (by simp) ?_
    refine AllReadyIn.cons rfl (fun K hK => ?_) ?_
    ·skip
     go_simp
     refine hK _ _ ?_
     clear hK K
     refine wpAnyIn_ready (rs := [8]) (by kernel_rfl) (by simp) ?_
     refine AllReadyIn.cons rfl (fun K hK => ?_) ?_
     ·skip
      go_simp
      refine ⟨trivial, ?_⟩
      refine (callsIn_wide.2 (impl_Instr_before.calls 1000 _ _ _ _ _ Ai ci Li rb _ ?_ hli hbef)).mono ?_
      ·exact hCi
      rintro e w7 ⟨v7, rfl, hv7, hb7⟩
      obtain ⟨Ar, cr, rfl⟩ := Kd.R_slice hv7
      have hcb7 := (hb7.cell (p := ⟨g + 1, 0, none⟩) hblt).trans hcb
      have hcx7 := (hb7.cell (p := ⟨g, x.1, none⟩) hglt).trans hcx
      have hfx7 : w7.frozen? ⟨g, x.1, none⟩ = false := (World.frozen?_of_block (hb7.block _ hglt)).trans hfx
      refine hK _ _ ?_
      clear hK K
      refine wpAnyIn_take (i := 9) (v := .pointer (some ⟨g, x.1, none⟩)) rfl rfl (by kernel_rfl) (by kernel_rfl) (by kernel_rfl) (fun _ _ _ h => h) ⟨Or.inl ⟨by rfl, by intro w_; go_simp <;> (intro h_; omega)⟩, fun _ => rfl⟩ ?_
      refine wpAnyIn_ready (rs := [10]) (by kernel_rfl) (by simp) ?_
      refine AllReadyIn.cons rfl (fun K hK => ?_) ?_
      ·skip
       go_simp
       refine hK _ _ ?_
       clear hK K
       refine wpAnyIn_done (by kernel_rfl) ?_ _
       exact hfin _ _ _ hb7 hv7
      exact AllReadyIn.nil
     exact AllReadyIn.nil
    exact AllReadyIn.nil
   refine AllReadyIn.cons rfl (fun K hK => ?_) ?_
   ·skip
    go_simp
    refine hK _ _ ?_
    clear hK K
    refine wpAnyIn_ready (rs := [0, 8]) (by kernel_rfl) (by simp) ?_
    refine AllReadyIn.cons rfl (fun K hK => ?_) ?_
    ·skip
     go_simp
     refine hK _ _ ?_
     clear hK K
     refine wpAnyIn_ready (rs := [8]) (by kernel_rfl) (by simp) ?_
     refine AllReadyIn.cons rfl (fun K hK => ?_) ?_
     ·skip
      go_simp
      refine ⟨trivial, ?_⟩
      refine (callsIn_wide.2 (impl_Instr_before.calls 1000 _ _ _ _ _ Ai ci Li rb _ ?_ hli hbef)).mono ?_
      ·exact hCi
      rintro e w7 ⟨v7, rfl, hv7, hb7⟩
      obtain ⟨Ar, cr, rfl⟩ := Kd.R_slice hv7
      have hcb7 := (hb7.cell (p := ⟨g + 1, 0, none⟩) hblt).trans hcb
      have hcx7 := (hb7.cell (p := ⟨g, x.1, none⟩) hglt).trans hcx
      have hfx7 : w7.frozen? ⟨g, x.1, none⟩ = false := (World.frozen?_of_block (hb7.block _ hglt)).trans hfx
      refine hK _ _ ?_
      clear hK K
      refine wpAnyIn_take (i := 9) (v := .pointer (some ⟨g, x.1, none⟩)) rfl rfl (by kernel_rfl) (by kernel_rfl) (by kernel_rfl) (fun _ _ _ h => h) ⟨Or.inl ⟨by rfl, by intro w_; go_simp <;> (intro h_; omega)⟩, fun _ => rfl⟩ ?_
      refine wpAnyIn_ready (rs := [10]) (by kernel_rfl) (by simp) ?_
      refine AllReadyIn.cons rfl (fun K hK => ?_) ?_
      ·skip
       go_simp
       refine hK _ _ ?_
       clear hK K
       refine wpAnyIn_done (by kernel_rfl) ?_ _
       exact hfin _ _ _ hb7 hv7
      exact AllReadyIn.nil
     exact AllReadyIn.nil
    refine AllReadyIn.cons rfl (fun K hK => ?_) ?_
    ·skip
     go_simp
     refine ⟨trivial, ?_⟩
     refine (callsIn_wide.2 (impl_Instr_before.calls 1000 _ _ _ _ _ Ai ci Li rb _ ?_ hli hbef)).mono ?_
     ·exact hCi
     rintro e w7 ⟨v7, rfl, hv7, hb7⟩
     obtain ⟨Ar, cr, rfl⟩ := Kd.R_slice hv7
     have hcb7 := (hb7.cell (p := ⟨g + 1, 0, none⟩) hblt).trans hcb
     have hcx7 := (hb7.cell (p := ⟨g, x.1, none⟩) hglt).trans hcx
     have hfx7 : w7.frozen? ⟨g, x.1, none⟩ = false := (World.frozen?_of_block (hb7.block _ hglt)).trans hfx
     refine hK _ _ ?_
     clear hK K
     refine wpAnyIn_ready (rs := [0]) (by kernel_rfl) (by simp) ?_
     refine AllReadyIn.cons rfl (fun K hK => ?_) ?_
     ·skip
      go_simp
      refine hK _ _ ?_
      clear hK K
      refine wpAnyIn_take (i := 9) (v := .pointer (some ⟨g, x.1, none⟩)) rfl rfl (by kernel_rfl) (by kernel_rfl) (by kernel_rfl) (fun _ _ _ h => h) ⟨Or.inl ⟨by rfl, by intro w_; go_simp <;> (intro h_; omega)⟩, fun _ => rfl⟩ ?_
      refine wpAnyIn_ready (rs := [10]) (by kernel_rfl) (by simp) ?_
      refine AllReadyIn.cons rfl (fun K hK => ?_) ?_
      ·skip
       go_simp
       refine hK _ _ ?_
       clear hK K
       refine wpAnyIn_done (by kernel_rfl) ?_ _
       exact hfin _ _ _ hb7 hv7
      exact AllReadyIn.nil
     exact AllReadyIn.nil
    exact AllReadyIn.nil
   exact AllReadyIn.nil
  refine AllReadyIn.cons rfl (fun K hK => ?_) ?_
  ·skip
   go_simp
   refine hK _ _ ?_
   clear hK K
   refine wpAnyIn_ready (rs := [0, 2]) (by kernel_rfl) (by simp) ?_
   refine AllReadyIn.cons rfl (fun K hK => ?_) ?_
   ·skip
    go_simp
    refine hK _ _ ?_
    clear hK K
    refine wpAnyIn_ready (rs := [2]) (by kernel_rfl) (by simp) ?_
    refine AllReadyIn.cons rfl (fun K hK => ?_) ?_
    ·skip
     go_simp
     refine hK _ _ ?_
     clear hK K
     refine wpAnyIn_ready (rs := [8]) (by kernel_rfl) (by simp) ?_
     refine AllReadyIn.cons rfl (fun K hK => ?_) ?_
     ·skip
      go_simp
      refine ⟨trivial, ?_⟩
      refine (callsIn_wide.2 (impl_Instr_before.calls 1000 _ _ _ _ _ Ai ci Li rb _ ?_ hli hbef)).mono ?_
      ·exact hCi
      rintro e w7 ⟨v7, rfl, hv7, hb7⟩
      obtain ⟨Ar, cr, rfl⟩ := Kd.R_slice hv7
      have hcb7 := (hb7.cell (p := ⟨g + 1, 0, none⟩) hblt).trans hcb
      have hcx7 := (hb7.cell (p := ⟨g, x.1, none⟩) hglt).trans hcx
      have hfx7 : w7.frozen? ⟨g, x.1, none⟩ = false := (World.frozen?_of_block (hb7.block _ hglt)).trans hfx
      refine hK _ _ ?_
      clear hK K
      refine wpAnyIn_take (i := 9) (v := .pointer (some ⟨g, x.1, none⟩)) rfl rfl (by kernel_rfl) (by kernel_rfl) (by kernel_rfl) (fun _ _ _ h => h) ⟨Or.inl ⟨by rfl, by intro w_; go_simp <;> (intro h_; omega)⟩, fun _ => rfl⟩ ?_
      refine wpAnyIn_ready (rs := [10]) (by kernel_rfl) (by simp) ?_
      refine AllReadyIn.cons rfl (fun K hK => ?_) ?_
      ·skip
       go_simp
       refine hK _ _ ?_
       clear hK K
       refine wpAnyIn_done (by kernel_rfl) ?_ _
       exact hfin _ _ _ hb7 hv7
      exact AllReadyIn.nil
     exact AllReadyIn.nil
    exact AllReadyIn.nil
   refine AllReadyIn.cons rfl (fun K hK => ?_) ?_
   ·skip
    go_simp
    refine hK _ _ ?_
    clear hK K
    refine wpAnyIn_ready (rs := [0, 8]) (by kernel_rfl) (by simp) ?_
    refine AllReadyIn.cons rfl (fun K hK => ?_) ?_
    ·skip
     go_simp
     refine hK _ _ ?_
     clear hK K
     refine wpAnyIn_ready (rs := [8]) (by kernel_rfl) (by simp) ?_
     refine AllReadyIn.cons rfl (fun K hK => ?_) ?_
     ·skip
      go_simp
      refine ⟨trivial, ?_⟩
      refine (callsIn_wide.2 (impl_Instr_before.calls 1000 _ _ _ _ _ Ai ci Li rb _ ?_ hli hbef)).mono ?_
      ·exact hCi
      rintro e w7 ⟨v7, rfl, hv7, hb7⟩
      obtain ⟨Ar, cr, rfl⟩ := Kd.R_slice hv7
      have hcb7 := (hb7.cell (p := ⟨g + 1, 0, none⟩) hblt).trans hcb
      have hcx7 := (hb7.cell (p := ⟨g, x.1, none⟩) hglt).trans hcx
      have hfx7 : w7.frozen? ⟨g, x.1, none⟩ = false := (World.frozen?_of_block (hb7.block _ hglt)).trans hfx
      refine hK _ _ ?_
      clear hK K
      refine wpAnyIn_take (i := 9) (v := .pointer (some ⟨g, x.1, none⟩)) rfl rfl (by kernel_rfl) (by kernel_rfl) (by kernel_rfl) (fun _ _ _ h => h) ⟨Or.inl ⟨by rfl, by intro w_; go_simp <;> (intro h_; omega)⟩, fun _ => rfl⟩ ?_
      refine wpAnyIn_ready (rs := [10]) (by kernel_rfl) (by simp) ?_
      refine AllReadyIn.cons rfl (fun K hK => ?_) ?_
      ·skip
       go_simp
       refine hK _ _ ?_
       clear hK K
       refine wpAnyIn_done (by kernel_rfl) ?_ _
       exact hfin _ _ _ hb7 hv7
      exact AllReadyIn.nil
     exact AllReadyIn.nil
    refine AllReadyIn.cons rfl (fun K hK => ?_) ?_
    ·skip
     go_simp
     refine ⟨trivial, ?_⟩
     refine (callsIn_wide.2 (impl_Instr_before.calls 1000 _ _ _ _ _ Ai ci Li rb _ ?_ hli hbef)).mono ?_
     ·exact hCi
     rintro e w7 ⟨v7, rfl, hv7, hb7⟩
     obtain ⟨Ar, cr, rfl⟩ := Kd.R_slice hv7
     have hcb7 := (hb7.cell (p := ⟨g + 1, 0, none⟩) hblt).trans hcb
     have hcx7 := (hb7.cell (p := ⟨g, x.1, none⟩) hglt).trans hcx
     have hfx7 : w7.frozen? ⟨g, x.1, none⟩ = false := (World.frozen?_of_block (hb7.block _ hglt)).trans hfx
     refine hK _ _ ?_
     clear hK K
     refine wpAnyIn_ready (rs := [0]) (by kernel_rfl) (by simp) ?_
     refine AllReadyIn.cons rfl (fun K hK => ?_) ?_
     ·skip
      go_simp
      refine hK _ _ ?_
      clear hK K
      refine wpAnyIn_take (i := 9) (v := .pointer (some ⟨g, x.1, none⟩)) rfl rfl (by kernel_rfl) (by kernel_rfl) (by kernel_rfl) (fun _ _ _ h => h) ⟨Or.inl ⟨by rfl, by intro w_; go_simp <;> (intro h_; omega)⟩, fun _ => rfl⟩ ?_
      refine wpAnyIn_ready (rs := [10]) (by kernel_rfl) (by simp) ?_
      refine AllReadyIn.cons rfl (fun K hK => ?_) ?_
      ·skip
       go_simp
       refine hK _ _ ?_
       clear hK K
       refine wpAnyIn_done (by kernel_rfl) ?_ _
       exact hfin _ _ _ hb7 hv7
      exact AllReadyIn.nil
     exact AllReadyIn.nil
    exact AllReadyIn.nil
   exact AllReadyIn.nil
  exact AllReadyIn.nil
 exact AllReadyIn.nil
set_option maxRecDepth 100000 in
set_option maxHeartbeats 16000000 in
theorem impl_liveSets.hand_S (A0 : Option Addr) (c0 : Nat) (l0 : List (S67)) (A1 : Option Addr) (c1 : Nat) (l1 : List Int) (w : World) (hr0 : Kd.C k67 w A0 l0.length l0) (hc0 : l0.length ≤ c0) (hr1 : Kd.C (Kd.int .i64) w A1 l1.length l1) (hc1 : l1.length ≤ c1) (hok : impl_liveSets.hand_ok l0 l1) :
  Calls Try.prog 100 #[.slice A0 l0.length c0, .slice A1 l1.length c1] w fun e w' => ∃ (g : Nat) (V : Nat → Value) (Ls : Nat → List Int) (Fo : Nat → Nat), e = .returned (.slice (some ⟨g, 0, none⟩) (l0.length + 1) (l0.length + 1)) ∧ impl_liveSets.hand_rows l0.length w.heap.size g V Ls Fo w' ∧ (∀ t, t ≤ l0.length → Ls (l0.length - t) = impl_liveSets.hand_at l0 l1 t) ∧ w.heap.size ≤ g ∧ Below w.heap.size w w' := by
 obtain ⟨hn, hn1, hw1, hcl⟩ := hok
 obtain ⟨i0, hi, hz0, hz1, hz2⟩ := info_parts info40
 have hwn : wrap64 ((l0.length : Int) + 1) = (l0.length : Int) + 1 := by unfold wrap64; omega
 obtain ⟨Z, hZ⟩ : ∃ Z : Array Value, Z = ((List.range (l0.length + 1)).map fun _ => (Value.slice none 0 0)).toArray := ⟨_, rfl⟩
 have hmk : ∀ W : World, (Instr.makeSlice 41 (.int .i64 ((l0.length : Int) + 1)) (.int .i64 ((l0.length : Int) + 1))).run Try.prog W = .ok (.slice (some ⟨W.heap.size, 0, none⟩) (l0.length + 1) (l0.length + 1)) (W.alloc (.cells Z 40)) := fun W => by
  have := run_makeSlice (P := Try.prog) (w := W) 41 40 i0 _ Try.underlying41 hi hz0 .i64 .i64 ((l0.length : Int) + 1) ((l0.length : Int) + 1) (by omega) (Int.le_refl _) (by rw [hz1]; omega) (by rw [hz2]; omega) (by omega)
  rw [hz1, show ((l0.length : Int) + 1).toNat = l0.length + 1 by omega, impl_liveSets.hand_zero, ← hZ] at this
  exact this
 have hcl1 : slices_Clone_int_int.f l1 = some l1 := by
  unfold slices_Clone_int_int.f
  rw [Option.bind_some, if_pos (by simp; omega), List.nil_append]
 have HZ := zK hZ
 clear hZ
 refine (callsIn_wide (n := 8)).1 ?_
 refine callsIn_of_wp_marks Try.func100 rfl trivial ?_ rfl
 simp only [Try.ntmps100, List.size_toArray, List.length_cons, List.length_nil, Nat.reduceAdd, Nat.reduceSub, Array.replicate_succ, Array.replicate_zero, List.push_toArray, List.append_toArray, List.nil_append, List.cons_append]
 refine wpIn_wide.2 ?_
 go_wp2
 have hbx := Boxed.new (w.alloc (.cells Z 40)) 41 (.slice (some ⟨w.heap.size, 0, none⟩) (l0.length + 1) (l0.length + 1))
 rw [World.size_alloc] at hbx
 have hgz : ((w.alloc (.cells Z 40)).alloc (.cells #[.slice (some ⟨w.heap.size, 0, none⟩) (l0.length + 1) (l0.length + 1)] 41)).heap[w.heap.size]? = some (.cells Z 40 (0, 0)) := zG (blk_new w _) _
 have hB1 : Below w.heap.size w ((w.alloc (.cells Z 40)).alloc (.cells #[.slice (some ⟨w.heap.size, 0, none⟩) (l0.length + 1) (l0.length + 1)] 41)) := zA (zA (Below.refl _ _) _) _
 generalize (w.alloc (.cells Z 40)).alloc (.cells #[.slice (some ⟨w.heap.size, 0, none⟩) (l0.length + 1) (l0.length + 1)] 41) = W1 at hbx hgz hB1 ⊢
 have hcb := hbx.cell
 have hcn : W1.cell? ⟨w.heap.size, l0.length, none⟩ = some (.slice none 0 0) := by simp [World.cell?, hgz, HZ.out]
 have hfn : W1.frozen? ⟨w.heap.size, l0.length, none⟩ = false := by simp [World.frozen?, hgz]
 have hbl := hbx.lt
 rename_i K hK
 have key : ∀ (w1 : World) (Ao : Option Addr) (co : Nat), Below W1.drew.heap.size W1.drew w1 → Kd.R (Kd.int .i64) 3 w1 W1.drew.heap.size (fun _ => True) (.slice Ao l1.length co) l1 →
   K { tmps := #[.slice A0 l0.length c0, .slice A1 l1.length c1, undef, undef, .slice none 0 0, .pointer (some ⟨w.heap.size + 1, 0, none⟩), undef, undef, .slice A0 l0.length c0, .int .i64 (l0.length : Int), .int .i64 ((l0.length : Int) + 1), .slice (some ⟨w.heap.size, 0, none⟩) (l0.length + 1) (l0.length + 1), .slice (some ⟨w.heap.size, 0, none⟩) (l0.length + 1) (l0.length + 1), .slice A0 l0.length c0, .int .i64 (l0.length : Int), .slice A1 l1.length c1, .slice Ao l1.length co, .pointer (some ⟨w.heap.size, l0.length, none⟩), undef, undef, undef, undef, undef, undef, undef, undef, undef, undef, undef, undef, undef, undef, undef], defers := [] } (w1.setCell ⟨w.heap.size, l0.length, none⟩ (.slice Ao l1.length co)) := by
  intro w1 Ao co hb1 hv1
  have hb1 : Below W1.heap.size W1 w1 := ⟨hb1.os, hb1.tape, hb1.output, hb1.size, hb1.block⟩
  have hbk : ∀ k, k < W1.heap.size → w1.heap[k]? = W1.heap[k]? := fun k hk => hb1.block k hk
  have hr0' : impl_liveSets.hand_rows l0.length w.heap.size w.heap.size (fun _ => .slice none 0 0) (fun _ => []) (fun _ => 0) w1 := ⟨by rw [hbk _ (by omega), hgz, HZ.out], fun j _ => Kd.R_nil _ _ _ _ _⟩
  have hrows := impl_liveSets.hand_rows_put hr0' l0.length (Nat.le_refl _) (.slice Ao l1.length co) l1 (b0 := W1.heap.size) (by omega) hv1 (fun j _ k e => by cases e)
  have hbx1 : Boxed w1 (w.heap.size + 1) 41 (.slice (some ⟨w.heap.size, 0, none⟩) (l0.length + 1) (l0.length + 1)) := (hbk _ hbl).trans hbx
  have hbx2 : Boxed (w1.setCell ⟨w.heap.size, l0.length, none⟩ (.slice Ao l1.length co)) (w.heap.size + 1) 41 (.slice (some ⟨w.heap.size, 0, none⟩) (l0.length + 1) (l0.length + 1)) := (Below.heap_setCell w1 ⟨w.heap.size, l0.length, none⟩ _ (w.heap.size + 1) (by simp)).trans hbx1
  have hB2 : Below w.heap.size w (w1.setCell ⟨w.heap.size, l0.length, none⟩ (.slice Ao l1.length co)) := zD (hB1.trans (hb1.mono hB1.size)) (Nat.le_refl _)
  clear hcb hcn hfn hv1 hr0' hbx hbx1 hgz hbl hb1 hB1 hbk
  generalize w1.setCell ⟨w.heap.size, l0.length, none⟩ (.slice Ao l1.length co) = w2 at hrows hbx2 hB2 ⊢
  generalize hV : (fun j => if j = l0.length then (Value.slice Ao l1.length co) else .slice none 0 0) = V0 at hrows
  generalize hL : (fun j => if j = l0.length then l1 else ([] : List Int)) = L0 at hrows
  generalize (fun k => if W1.heap.size ≤ k then l0.length else 0) = F0 at hrows
  clear hV
  have hwant0 : ∀ j, impl_liveSets.hand_want (L0 j) := fun j => by
   rw [← hL]
   dsimp only
   split
   ·exact hw1
   ·exact ⟨List.Pairwise.nil, fun r hr => by cases hr⟩
  have hexp0 : L0 l0.length = l1 := by rw [← hL]; simp
  clear hL
  refine hK _ _ ?_
  clear hK
  go_wp2_with (go_at_call 103; refine (callsIn_wide.1 (bwiter.hand_make Fence.wide 8 trivial rfl A0 l0.length c0 _)).mono ?_; rintro e w' ⟨rfl, rfl⟩)
  refine (wpIn_wide (n := 8)).1 ?_
  have hgl : w.heap.size < w2.heap.size := (Array.getElem?_eq_some_iff.1 hrows.1).1
  refine wpIn_rangeFunc_ownH (n := 8) (F := Fence.wide) rfl (by decide) (gf := 151) (lb := #[.pointer (some ⟨w2.heap.size, 0, none⟩)]) rfl trivial (enters_of Try.func151 (by kernel_rfl) rfl)
   (bwiter.hand_stops Fence.wide 7 trivial rfl (by decide) w2.heap.size c0 A0 l0 w (w2.alloc (.cells #[.slice A0 l0.length c0] 24)) (by omega) hr0 (hB2.alloc hB2.size _) (Boxed.new w2 24 _).cell (by simp)) bwiter.hand_keep_t (bwiter.hand_keep_b (by simp; omega) (by simp)) (Below.refl _ _) (fun _ => rfl)
   (fun pre W => (∃ (V : Nat → Value) (Ls : Nat → List Int) (Fo : Nat → Nat), impl_liveSets.hand_rows l0.length w.heap.size w.heap.size V Ls Fo W ∧ (∀ j, impl_liveSets.hand_want (Ls j)) ∧ ∀ m, m ≤ l0.length → pre = bwiter.hand_from l0.length m → ∀ t, t ≤ m → Ls (l0.length - t) = impl_liveSets.hand_at l0 l1 t) ∧ Boxed W (w.heap.size + 1) 41 (.slice (some ⟨w.heap.size, 0, none⟩) (l0.length + 1) (l0.length + 1)) ∧ Below w.heap.size w W ∧ w2.heap.size < W.heap.size)
   (fun _ _ _ => False)
   ?_ (fun _ _ _ _ _ hs _ _ => hs) ?_
   (fun x a' W => ∃ Bx, w2.heap.size < Bx ∧ W.heap[Bx]? = some (.cells #[.string (rd_T67 l0 (x.1 : Int)).f0, .int .i64 (rd_T67 l0 (x.1 : Int)).f1, .int .i64 (rd_T67 l0 (x.1 : Int)).f2, .int .i64 (rd_T67 l0 (x.1 : Int)).f3, .int .i64 (rd_T67 l0 (x.1 : Int)).f4] 67 (0, 0)) ∧ a' = impl_liveSets.hand_act l0 A0 A1 Ao c0 l1.length c1 co w.heap.size w2.heap.size Bx x)
   ?_ ?_ ?_ ?_ ?_
  ·intro s W W' row hs hg hr
   obtain ⟨⟨V, Ls, Fo, h1, h2, h3⟩, h4, h5, h6⟩ := hs
   exact ⟨⟨V, Ls, Fo, impl_liveSets.hand_rows_kept h1 hg (fun r e => (hr r e).2), h2, h3⟩, impl_liveSets.hand_blk h4 hg hr, ownFrom_below (β := Unit) (Nat.le_refl _) (by simp; omega) () W W' row h5 hg hr, Nat.lt_of_lt_of_le h6 hg.size⟩
  ·refine ⟨⟨V0, L0, F0, impl_liveSets.hand_rows_below hrows (zA (Below.refl _ _) _), hwant0, fun m hm e t ht => ?_⟩, hbx2.alloc _, hB2.alloc hB2.size _, by simp⟩
   have := congrArg List.length e
   rw [bwiter.hand_from_len _ _ hm] at this
   obtain rfl : m = 0 := this.symm
   obtain rfl : t = 0 := by omega
   exact hexp0
  ·intro x a' s W W' row hs hg hr
   obtain ⟨Bx, h1, h2, h3⟩ := hs
   exact ⟨Bx, h1, impl_liveSets.hand_blk h2 hg hr, h3⟩
  ·intro l pre x W K hi hKK
   obtain ⟨⟨V, Ls, Fo, h1, h2, h3⟩, h4, h5, h6⟩ := hi
   simp only [bwiter.hand_encs]
   gi_wp2
   exact hKK _ _ ((KeepsOthers.alloc _ _).from _) ⟨(Below.refl w.heap.size W).alloc h5.size _, Below.heap_alloc _ _ _ h6⟩ ⟨⟨V, Ls, Fo, impl_liveSets.hand_rows_below h1 (zA (Below.refl _ _) _), h2, h3⟩, h4.alloc _, h5.alloc h5.size _, by simp; omega⟩ ⟨W.heap.size, h6, blk_new _ _, rfl⟩
  ·rintro l pre x a' W hl hrr ⟨⟨V, Ls, Fo, h1, h2, h3⟩, h4, h5, h6⟩ ⟨Bx, hx1, hx2, rfl⟩ hlt
   have hx := x.2
   obtain ⟨hcx, hfx⟩ := impl_liveSets.hand_rows_cell h1 x.1 (by omega)
   obtain ⟨hcy, _⟩ := impl_liveSets.hand_rows_cell h1 (x.1 + 1) (by omega)
   obtain ⟨Ai, ci, hvi, hli, hCi⟩ := Kd.R_reads (h1.2 (x.1 + 1) (by omega))
   rw [hvi] at hcy
   obtain ⟨rb, hbef, hwr⟩ := hcl x.1 hx (Ls (x.1 + 1)) (h2 _)
   have hfin := impl_liveSets.hand_fin l0 l1 w w2 W W.drew V Ls Fo pre x rb h1 h2 h3 h4 h5 h6 hgl (B := (w2.alloc (.cells #[.slice A0 l0.length c0] 24)).heap.size) (by have := hB2.size; simp; omega) rfl hbef hwr
   exact wpIn_mono (impl_liveSets.hand_body (As := _) (Bo := _) rfl l0 A0 A1 Ao c0 l1.length c1 co w.heap.size w2.heap.size Bx l x W (V x.1) Ai ci (Ls (x.1 + 1)) rb _ h4.cell h4.lt hcx hfx hcy hli hCi hx2 hn hbef (fun W1 Ar cr hb hR => hfin W1 Ar cr rb hb hR rfl hwr)) (fun e a w hq => by cases e <;> first | exact hq | exact hq.elim)
  ·rintro D ys W hD rfl ⟨⟨V, Ls, Fo, h1, h2, h3⟩, h4, h5, h6⟩ hKd
   have hcc := h4.cell
   go_wp2
   refine ⟨by simp, .inl ⟨_, _, rfl, run_takeDeferred hKd, ?_⟩⟩
   exact ⟨_, results_tmp rfl _ _ _, w.heap.size, V, Ls, Fo, rfl, impl_liveSets.hand_rows_kept h1 (grownBy_putObj' W D _) (fun r e => by cases e; exact ⟨_, hKd, rfl⟩), fun t ht => h3 l0.length (Nat.le_refl _) rfl t ht, Nat.le_refl _, h5.trans (belowK_b (w := w) (Nat.le_refl _) W D _ _ (Nat.le_trans hB2.size (Nat.le_trans (by simp) hD)) hKd rfl rfl)⟩
  ·intro D c pre W _ _ h _
   exact h.elim
 refine wp_mono (Q := Exit.then K (fun _ _ _ => False)) ?_ (fun e a w h => by cases e <;> first | exact h | exact h.elim)
 go_region_with (go_at_call 79; refine (slices_Clone_int_int.calls A1 c1 l1 l1 _ ?_ hc1 ?_).mono ?_; exact (Kd.C_below hr1 (by repeat (first | exact hB1 | apply below_drew))); exact hcl1; rintro e w1 ⟨v1, rfl, hv1, hb1⟩; obtain ⟨Ao, co, rfl⟩ := Kd.R_slice hv1; have hcb1 := (hb1.cell (p := ⟨w.heap.size + 1, 0, none⟩) hbl).trans hcb; have hcn1 := (hb1.cell (p := ⟨w.heap.size, l0.length, none⟩) (Nat.lt_trans (Nat.lt_succ_self _) hbl)).trans hcn; have hfn1 : w1.frozen? ⟨w.heap.size, l0.length, none⟩ = false := (World.frozen?_of_block (hb1.block _ (Nat.lt_trans (Nat.lt_succ_self _) hbl))).trans hfn)
 all_goals exact key _ _ _ hb1 hv1
theorem impl_liveSets.calls (k : Nat) (A0 : Option Addr) (c0 : Nat) (l0 : List (S67)) (A1 : Option Addr) (c1 : Nat) (l1 : List Int) (r : List (List Int)) (w : World) (hr0 : Kd.C k67 w A0 l0.length l0) (hc0 : l0.length ≤ c0) (hr1 : Kd.C (Kd.int .i64) w A1 l1.length l1) (hc1 : l1.length ≤ c1) (h : impl_liveSets.f k l0 l1 = some r) :
  Calls Try.prog 100 #[.slice A0 l0.length c0, .slice A1 l1.length c1] w fun e w' => ∃ v0_ : Value, e = .returned (v0_) ∧ Kd.N (Kd.slice 3 (Kd.int .i64)) 40 w' w.heap.size (fun k_ => (w.heap.size ≤ k_)) v0_ r ∧ Below w.heap.size w w' := by
 unfold impl_liveSets.f at h
 by_cases hok : impl_liveSets.hand_ok l0 l1
 ·rw [if_pos hok] at h
  obtain rfl := Option.some.inj h
  refine (impl_liveSets.hand_S A0 c0 l0 A1 c1 l1 w hr0 hc0 hr1 hc1 hok).mono ?_
  rintro e w' ⟨g, V, Ls, Fo, rfl, hrows, hexp, hgb, hB⟩
  have hs1 : (Kd.slice 3 (Kd.int .i64)).sz = 1 := rfl
  refine ⟨_, rfl, Kd.R_N ⟨fun k hk => ?_, (List.range (l0.length + 1)).map V, ⟨by simp [hs1], .inr ⟨g, l0.length + 1, _, by simp, hgb, hrows.1, by simp, by have := hok.1; unfold maxLen; omega, by simp [hs1], ?_⟩⟩, ?_, fun j p hj => ?_⟩, hB⟩
  ·have : g = k := by simpa [Value.ownBlock] using hk
   omega
  ·rw [hs1, Nat.mul_one]
   exact List.take_of_length_le (by simp)
  ·simp [hs1]
  ·have hjl : j < l0.length + 1 := by
    have := (List.getElem?_eq_some_iff.1 hj).1
    simpa using this
   have hp : Ls j = p := by
    rw [List.getElem?_map, List.getElem?_range hjl] at hj
    have e := Option.some.inj hj
    rw [← e]
    show Ls j = impl_liveSets.hand_at l0 l1 (l0.length - j)
    rw [← hexp (l0.length - j) (by omega)]
    congr 1
    omega
   have hcs : (((List.range (l0.length + 1)).map V).drop (j * (Kd.slice 3 (Kd.int .i64)).sz)).take (Kd.slice 3 (Kd.int .i64)).sz = [V j] := by
    show (((List.range (l0.length + 1)).map V).drop (j * 1)).take 1 = [V j]
    rw [Nat.mul_one, List.drop_eq_getElem_cons (by simpa using hjl)]
    simp
   rw [hcs]
   refine ⟨V j, rfl, ?_⟩
   rw [← hp]
   refine Kd.R_mono (Kd.R_bound (impl_liveSets.hand_types (hrows.2 j (by omega)) hrows.1)) (fun k hk => ⟨hk.2.1, fun e => ?_⟩)
   have : k = g := by simpa [Value.ownBlock] using e
   exact hk.1.2 this
 ·rw [if_neg hok] at h
  cases h
end

/-! ### impl_LiveSets: function 54 -/
noncomputable def impl_LiveSets.f (k : Nat) (l0 : List (S67)) (l1 : List Int) : Option ((List (List Int)) × Bool) := (impl_IsCode.f k l0).bind fun t526 => (if t526 = true then ((impl_areWanted.f k l1).bind fun t527 => (if t527 = true then ((impl_liveSets.f k l0 l1).bind fun t528 => (some (t528, true))) else (some (([] : List (List Int)), false)))) else (some (([] : List (List Int)), false)))
theorem impl_LiveSets.mono : ∀ a0 a1 k, LeO (impl_LiveSets.f k a0 a1) (impl_LiveSets.f (k + 1) a0 a1) := by
 intro a0 a1 k
 unfold impl_LiveSets.f
 repeat' first
   | (with_reducible exact impl_IsCode.mono _ _)
   | (with_reducible exact impl_areWanted.mono _ _)
   | (with_reducible exact impl_liveSets.mono _ _ _)
   | (with_reducible exact LeO.refl _)
   | (with_reducible exact LeO.none _)
   | (with_reducible refine LeO.ite ?_ ?_)
   | (with_reducible refine LeO.bind ?_ (fun _ => ?_))
   | exact impl_IsCode.mono _ _
   | exact impl_areWanted.mono _ _
   | exact impl_liveSets.mono _ _ _
   | exact LeO.none _
   | refine LeO.ite ?_ ?_
   | refine LeO.bind ?_ (fun _ => ?_)
set_option maxHeartbeats 16000000 in
set_option maxRecDepth 100000 in
theorem impl_LiveSets.calls (k : Nat) (A0 : Option Addr) (c0 : Nat) (l0 : List (S67)) (A1 : Option Addr) (c1 : Nat) (l1 : List Int) (r1 : List (List Int)) (r2 : Bool) (w : World) (hr0 : Kd.C k67 w A0 l0.length l0) (hc0 : l0.length ≤ c0) (hr1 : Kd.C (Kd.int .i64) w A1 l1.length l1) (hc1 : l1.length ≤ c1) (h : impl_LiveSets.f k l0 l1 = some (r1, r2)) :
  Calls Try.prog 54 #[.slice A0 l0.length c0, .slice A1 l1.length c1] w fun e w' => ∃ v0_ : Value, e = .returned (.tuple #[v0_, .bool r2]) ∧ Kd.N (Kd.slice 3 (Kd.int .i64)) 40 w' w.heap.size (fun k_ => (w.heap.size ≤ k_)) v0_ r1 ∧ Below w.heap.size w w' := by
 have HR0 := zK hr0
 have HC0 := zK hc0
 clear hr0 hc0
 have HR1 := zK hr1
 have HC1 := zK hc1
 clear hr1 hc1
 have HB := zK (Below.refl w.heap.size w)
 have H : ((impl_IsCode.f k l0).bind fun t526 => (if t526 = true then ((impl_areWanted.f k l1).bind fun t527 => (if t527 = true then ((impl_liveSets.f k l0 l1).bind fun t528 => (some (t528, true))) else (some (([] : List (List Int)), false)))) else (some (([] : List (List Int)), false)))) = some (r1, r2) := h
 clear h
 replace H := Option.bind_eq_some_iff.mp H
 obtain ⟨t526, A30, H⟩ := H
 replace H : (if t526 = true then ((impl_areWanted.f k l1).bind fun t527 => (if t527 = true then ((impl_liveSets.f k l0 l1).bind fun t528 => (some (t528, true))) else (some (([] : List (List Int)), false)))) else (some (([] : List (List Int)), false))) = some (r1, r2) := H
 have A3 := zK A30
 clear A30
 by_cases c4 : t526 = true
 ·subst c4
  rw [if_pos rfl] at H
  replace H := Option.bind_eq_some_iff.mp H
  obtain ⟨t527, A50, H⟩ := H
  replace H : (if t527 = true then ((impl_liveSets.f k l0 l1).bind fun t528 => (some (t528, true))) else (some (([] : List (List Int)), false))) = some (r1, r2) := H
  have A5 := zK A50
  clear A50
  by_cases c6 : t527 = true
  ·subst c6
   rw [if_pos rfl] at H
   replace H := Option.bind_eq_some_iff.mp H
   obtain ⟨t528, A70, H⟩ := H
   replace H : (some (t528, true)) = some (r1, r2) := H
   have A7 := zK A70
   clear A70
   simp only [Option.some.injEq, Prod.mk.injEq] at H
   obtain ⟨rfl, rfl⟩ := H
   go_enter Try.func54, Try.ntmps54
   go_wp2_with (first | ((with_reducible refine gate_callee (f := 60) rfl ?_); refine goesL_ (some 7) rfl rfl Try.func60 (by kernel_rfl) rfl #[.slice A0 l0.length c0] rfl (by (try simp only [z6, z7, z8]); first | done | rfl | (simp only [z4, z5]; rfl)) ?_; (with_reducible refine (impl_IsCode.calls k _ _ l0 true _ ?side1 ?side2 A3.out).mono ?_); (case side1 => repeat (first | exact HR0.out | (with_reducible refine Kd.C_alloc ?_ _) | (with_reducible refine Kd.C_drewN ?_ _) | (with_reducible refine Kd.C_drew ?_))); (case side2 => exact HC0.out); rintro e w8 ⟨rfl, hb⟩; refine ⟨_, rfl, ?_⟩; have n0_ := zK (zL (by repeat (first | (with_reducible first | exact HB.out | apply zA | apply zB | apply zC) | exact HB.out)) hb); clear HB; have HB := n0_; clear n0_; (try clear hb); (try clear hb2); (try clear hk); (try clear hi)) | (go_at_call 94; (with_reducible refine (impl_areWanted.calls k _ _ l1 true _ ?side1 ?side2 A5.out).mono ?_); (case side1 => repeat (first | exact (Kd.C_below HR1.out HB.out) | (with_reducible refine Kd.C_alloc ?_ _) | (with_reducible refine Kd.C_drewN ?_ _) | (with_reducible refine Kd.C_drew ?_))); (case side2 => exact HC1.out); rintro e w' ⟨rfl, ⟨nd, rfl⟩⟩) | ((with_reducible refine gate_callee (f := 100) rfl ?_); refine goesL_ (some 16) rfl rfl Try.func100 (by kernel_rfl) rfl #[.slice A0 l0.length c0, .slice A1 l1.length c1] rfl (by (try simp only [z6, z7, z8]); first | done | rfl | (simp only [z4, z5]; rfl)) ?_; (with_reducible refine (impl_liveSets.calls k _ _ l0 _ _ l1 t528 _ ?side1 ?side2 ?side3 ?side4 A7.out).mono ?_); (case side1 => repeat (first | exact (Kd.C_below HR0.out (by repeat (first | (with_reducible first | exact HB.out | apply zA | apply zB | apply zC) | exact HB.out))) | (with_reducible refine Kd.C_alloc ?_ _) | (with_reducible refine Kd.C_drewN ?_ _) | (with_reducible refine Kd.C_drew ?_))); (case side2 => exact HC0.out); (case side3 => repeat (first | exact (Kd.C_below HR1.out (by repeat (first | (with_reducible first | exact HB.out | apply zA | apply zB | apply zC) | exact HB.out))) | (with_reducible refine Kd.C_alloc ?_ _) | (with_reducible refine Kd.C_drewN ?_ _) | (with_reducible refine Kd.C_drew ?_))); (case side4 => exact HC1.out); rintro e w9 ⟨v529, rfl, ho0, hb⟩; refine ⟨_, rfl, ?_⟩; have n0_ := zK (Kd.N_lower (Kd.N_mono (ok' := fun k_ => (w.heap.size ≤ k_)) ho0 (fun k_ hk_ => (Nat.le_trans (zN (by repeat (first | (with_reducible first | exact HB.out | apply zA | apply zB | apply zC) | exact HB.out))) hk_))) (zN (by repeat (first | (with_reducible first | exact HB.out | apply zA | apply zB | apply zC) | exact HB.out)))); have n1_ := zK (zL (by repeat (first | (with_reducible first | exact HB.out | apply zA | apply zB | apply zC) | exact HB.out)) hb); clear HB; have HO530 := n0_; have HB := n1_; clear n0_ n1_; (try clear hb); (try clear hb2); (try clear hk); (try clear hi); (try clear ho0)))
   go_ret2
   exact ⟨_, by first | rfl | (simp [errW_none, errW_some] <;> rfl) | (simp [*, errW_none, errW_some] <;> rfl), by (with_reducible repeat (first | apply Kd.N_alloc | apply Kd.N_drewN | apply Kd.N_drew)); exact HO530.out, by repeat (first | (with_reducible first | exact HB.out | apply zA | apply zB | apply zC) | exact HB.out)⟩
  ·replace c6 := Bool.eq_false_iff.mpr c6
   subst c6
   rw [if_neg (show ¬ (false = true) by decide)] at H
   simp only [Option.some.injEq, Prod.mk.injEq] at H
   obtain ⟨rfl, rfl⟩ := H
   go_enter Try.func54, Try.ntmps54
   go_wp2_with (first | ((with_reducible refine gate_callee (f := 60) rfl ?_); refine goesL_ (some 7) rfl rfl Try.func60 (by kernel_rfl) rfl #[.slice A0 l0.length c0] rfl (by (try simp only [z6, z7, z8]); first | done | rfl | (simp only [z4, z5]; rfl)) ?_; (with_reducible refine (impl_IsCode.calls k _ _ l0 true _ ?side1 ?side2 A3.out).mono ?_); (case side1 => repeat (first | exact HR0.out | (with_reducible refine Kd.C_alloc ?_ _) | (with_reducible refine Kd.C_drewN ?_ _) | (with_reducible refine Kd.C_drew ?_))); (case side2 => exact HC0.out); rintro e w10 ⟨rfl, hb⟩; refine ⟨_, rfl, ?_⟩; have n0_ := zK (zL (by repeat (first | (with_reducible first | exact HB.out | apply zA | apply zB | apply zC) | exact HB.out)) hb); clear HB; have HB := n0_; clear n0_; (try clear hb); (try clear hb2); (try clear hk); (try clear hi)) | (go_at_call 94; (with_reducible refine (impl_areWanted.calls k _ _ l1 false _ ?side1 ?side2 A5.out).mono ?_); (case side1 => repeat (first | exact (Kd.C_below HR1.out HB.out) | (with_reducible refine Kd.C_alloc ?_ _) | (with_reducible refine Kd.C_drewN ?_ _) | (with_reducible refine Kd.C_drew ?_))); (case side2 => exact HC1.out); rintro e w' ⟨rfl, ⟨nd, rfl⟩⟩))
   go_ret2
   exact ⟨_, by first | rfl | (simp [errW_none, errW_some] <;> rfl) | (simp [*, errW_none, errW_some] <;> rfl), by first | exact Kd.S_nil _ _ _ _ _ | exact Kd.N_nil _ _ _ _ _ | exact Kd.V_nil _ _ _ _ _ | exact Kd.Q_nil _ _ _ _ _ | exact Kd.R_nil _ _ _ _ _, by repeat (first | (with_reducible first | exact HB.out | apply zA | apply zB | apply zC) | exact HB.out)⟩
 ·replace c4 := Bool.eq_false_iff.mpr c4
  subst c4
  rw [if_neg (show ¬ (false = true) by decide)] at H
  simp only [Option.some.injEq, Prod.mk.injEq] at H
  obtain ⟨rfl, rfl⟩ := H
  go_enter Try.func54, Try.ntmps54
  go_wp2_with (first | ((with_reducible refine gate_callee (f := 60) rfl ?_); refine goesL_ (some 7) rfl rfl Try.func60 (by kernel_rfl) rfl #[.slice A0 l0.length c0] rfl (by (try simp only [z6, z7, z8]); first | done | rfl | (simp only [z4, z5]; rfl)) ?_; (with_reducible refine (impl_IsCode.calls k _ _ l0 false _ ?side1 ?side2 A3.out).mono ?_); (case side1 => repeat (first | exact HR0.out | (with_reducible refine Kd.C_alloc ?_ _) | (with_reducible refine Kd.C_drewN ?_ _) | (with_reducible refine Kd.C_drew ?_))); (case side2 => exact HC0.out); rintro e w11 ⟨rfl, hb⟩; refine ⟨_, rfl, ?_⟩; have n0_ := zK (zL (by repeat (first | (with_reducible first | exact HB.out | apply zA | apply zB | apply zC) | exact HB.out)) hb); clear HB; have HB := n0_; clear n0_; (try clear hb); (try clear hb2); (try clear hk); (try clear hi)))
  go_ret2
  exact ⟨_, by first | rfl | (simp [errW_none, errW_some] <;> rfl) | (simp [*, errW_none, errW_some] <;> rfl), by first | exact Kd.S_nil _ _ _ _ _ | exact Kd.N_nil _ _ _ _ _ | exact Kd.V_nil _ _ _ _ _ | exact Kd.Q_nil _ _ _ _ _ | exact Kd.R_nil _ _ _ _ _, by repeat (first | (with_reducible first | exact HB.out | apply zA | apply zB | apply zC) | exact HB.out)⟩

/-! ### laws_FnExactLiveSets: function 12 -/
/- The law is walked by hand behind laws_szInstrS.calls laws_toInstrS.calls laws_toIntS.calls laws_eqInstrS.calls laws_eqIntS.calls laws_eqIntSS.calls laws_markInstrS.calls laws_markIntS.calls laws_markIntSS.calls laws_heldIntSS.calls spec_LiveSets.calls impl_LiveSets.calls . -/

end Go.Proofs.Ytecmlikhmkcdpaa.G
