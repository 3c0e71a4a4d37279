/- Contracts: impl_Instr_reads. -/
import Derived.Test.YthnckplfnmkmpaaFK
import Derived.Test.YthnckplfnmkmpaaFImplFormOf
import Derived.Test.YthnckplfnmkmpaaFCmpIsNaNInt
namespace Go.Proofs.Ythnckplfnmkmpaa.F
open Go.RowKit Go.Proofs.YthnckplfnmkmpaaW.PrintWords Go.Proofs.YthnckplfnmkmpaaW.PrintLast Go.Proofs.YthnckplfnmkmpaaW.PrintMore
attribute [local go_sem] max2_int min2_int max_two min_two max_three min_three max_four min_four   -- for this text's walks alone
set_option linter.unusedVariables false
set_option linter.unusedSimpArgs false

/-! ### impl_Instr_reads: function 52 -/
def impl_Instr_reads.j0 : Nat → List Int → ByteArray → Int → Int → Int → Int → Bool → Bool → Int → Int → Int → ByteArray → Option (List Int)
 | 0, _, _, _, _, _, _, _, _, _, _, _, _ => none
 | k + 1, x5, x622000, x622001, x622002, x622003, x622004, x630000, x630001, x630002, x630003, x630004, x630005 => if x630001 = true then (if x5.length < 17592186044416 then ((slices_Sort_int_int.f k (x5 ++ [x622003])).bind fun t639 => ((slices_Compact_int_int.f k t639).bind fun t640 => (some t640))) else (none)) else ((slices_Sort_int_int.f k x5).bind fun t643 => ((slices_Compact_int_int.f k t643).bind fun t644 => (some t644)))
def impl_Instr_reads.f (k : Nat) (a0_0 : ByteArray) (a0_1 : Int) (a0_2 : Int) (a0_3 : Int) (a0_4 : Int) : Option (List Int) := (impl_formOf.f k a0_0).bind fun bt622 => ((some (([] : List Int) : List Int)).bind fun y630 => (if bt622.1 = true then (if y630.length < 17592186044416 then (impl_Instr_reads.j0 k (y630 ++ [a0_2]) a0_0 a0_1 a0_2 a0_3 a0_4 bt622.1 bt622.2.1 bt622.2.2.1 bt622.2.2.2.1 bt622.2.2.2.2.1 bt622.2.2.2.2.2.1) else (none)) else (impl_Instr_reads.j0 k y630 a0_0 a0_1 a0_2 a0_3 a0_4 bt622.1 bt622.2.1 bt622.2.2.1 bt622.2.2.2.1 bt622.2.2.2.2.1 bt622.2.2.2.2.2.1)))
theorem impl_Instr_reads.mono_l : ∀ k, (∀ y0 y1 y2 y3 y4 y5 y6 y7 y8 y9 y10 y11, LeO (impl_Instr_reads.j0 k y0 y1 y2 y3 y4 y5 y6 y7 y8 y9 y10 y11) (impl_Instr_reads.j0 (k + 1) y0 y1 y2 y3 y4 y5 y6 y7 y8 y9 y10 y11))
 | 0 => fun _ _ _ _ _ _ _ _ _ _ _ _ r h => by simp [impl_Instr_reads.j0] at h
 | k + 1 => by
  have ih0 := impl_Instr_reads.mono_l k
  ·intro y0 y1 y2 y3 y4 y5 y6 y7 y8 y9 y10 y11
   unfold impl_Instr_reads.j0
   repeat' first
   | (with_reducible exact ih0 _ _ _ _ _ _ _ _ _ _ _ _)
   | (with_reducible exact impl_formOf.mono _ _)
   | (with_reducible exact slices_Compact_int_int.mono _ _)
   | (with_reducible exact slices_Sort_int_int.mono _ _)
   | (with_reducible exact LeO.refl _)
   | (with_reducible exact LeO.none _)
   | (with_reducible refine LeO.ite ?_ ?_)
   | (with_reducible refine LeO.bind ?_ (fun _ => ?_))
   | exact ih0 _ _ _ _ _ _ _ _ _ _ _ _
   | exact impl_formOf.mono _ _
   | exact slices_Compact_int_int.mono _ _
   | exact slices_Sort_int_int.mono _ _
   | exact LeO.none _
   | refine LeO.ite ?_ ?_
   | refine LeO.bind ?_ (fun _ => ?_)
theorem impl_Instr_reads.mono : ∀ a0 a1 a2 a3 a4 k, LeO (impl_Instr_reads.f k a0 a1 a2 a3 a4) (impl_Instr_reads.f (k + 1) a0 a1 a2 a3 a4) := by
 intro a0 a1 a2 a3 a4 k
 have ih0 := impl_Instr_reads.mono_l k
 unfold impl_Instr_reads.f
 repeat' first
   | (with_reducible exact ih0 _ _ _ _ _ _ _ _ _ _ _ _)
   | (with_reducible exact impl_formOf.mono _ _)
   | (with_reducible exact slices_Compact_int_int.mono _ _)
   | (with_reducible exact slices_Sort_int_int.mono _ _)
   | (with_reducible exact LeO.refl _)
   | (with_reducible exact LeO.none _)
   | (with_reducible refine LeO.ite ?_ ?_)
   | (with_reducible refine LeO.bind ?_ (fun _ => ?_))
   | exact ih0 _ _ _ _ _ _ _ _ _ _ _ _
   | exact impl_formOf.mono _ _
   | exact slices_Compact_int_int.mono _ _
   | exact slices_Sort_int_int.mono _ _
   | exact LeO.none _
   | refine LeO.ite ?_ ?_
   | refine LeO.bind ?_ (fun _ => ?_)
set_option maxHeartbeats 8000000 in
set_option maxRecDepth 100000 in
theorem impl_Instr_reads.calls (k : Nat) (a0_0 : ByteArray) (a0_1 : Int) (a0_2 : Int) (a0_3 : Int) (a0_4 : Int) (r : List Int) (w : World) (h : impl_Instr_reads.f k a0_0 a0_1 a0_2 a0_3 a0_4 = some r) :
  Calls Try.prog 52 #[.agg #[.string a0_0, .int .i64 a0_1, .int .i64 a0_2, .int .i64 a0_3, .int .i64 a0_4]] w fun e w' => ∃ v0_ : Value, e = .returned (v0_) ∧ Kd.R (Kd.int .i64) 3 w' w.heap.size (fun _ => True) v0_ r ∧ Below w.heap.size w w' := by
 have hu37 := Try.underlying37
 have hu86 := Try.underlying86
 have HB := zK (Below.refl w.heap.size w)
 have H : ((impl_formOf.f k a0_0).bind fun bt622 => ((some (([] : List Int) : List Int)).bind fun y630 => (if bt622.1 = true then (if y630.length < 17592186044416 then (impl_Instr_reads.j0 k (y630 ++ [a0_2]) a0_0 a0_1 a0_2 a0_3 a0_4 bt622.1 bt622.2.1 bt622.2.2.1 bt622.2.2.2.1 bt622.2.2.2.2.1 bt622.2.2.2.2.2.1) else (none)) else (impl_Instr_reads.j0 k y630 a0_0 a0_1 a0_2 a0_3 a0_4 bt622.1 bt622.2.1 bt622.2.2.1 bt622.2.2.2.1 bt622.2.2.2.2.1 bt622.2.2.2.2.2.1)))) = some r := h
 clear h
 replace H := Option.bind_eq_some_iff.mp H
 obtain ⟨⟨t622, t623, t624, t625, t626, t627, t628⟩, A20, H⟩ := H
 replace H : ((some (([] : List Int) : List Int)).bind fun y630 => (if t622 = true then (if y630.length < 17592186044416 then (impl_Instr_reads.j0 k (y630 ++ [a0_2]) a0_0 a0_1 a0_2 a0_3 a0_4 t622 t623 t624 t625 t626 t627) else (none)) else (impl_Instr_reads.j0 k y630 a0_0 a0_1 a0_2 a0_3 a0_4 t622 t623 t624 t625 t626 t627))) = some r := H
 have A2 := zK A20
 clear A20
 obtain ⟨y630, hy630⟩ : ∃ y_ : List Int, y_ = (([] : List Int)) := ⟨_, rfl⟩
 replace H : (if t622 = true then (if y630.length < 17592186044416 then (impl_Instr_reads.j0 k (y630 ++ [a0_2]) a0_0 a0_1 a0_2 a0_3 a0_4 t622 t623 t624 t625 t626 t627) else (none)) else (impl_Instr_reads.j0 k y630 a0_0 a0_1 a0_2 a0_3 a0_4 t622 t623 t624 t625 t626 t627)) = some r := by first | (rw [hy630]; with_reducible exact H) | (have H2_ := (Option.bind_some _ _).symm.trans H; rw [hy630]; with_reducible exact H2_) | (have H2_ := (Option.bind_some _ _).symm.trans H; with_reducible exact H2_) | with_reducible exact H | (rw [hy630]; exact H) | exact H
 have Ny630 := zK hy630
 clear hy630
 have HC3 := zK H
 clear H
 go_enter Try.func52, Try.ntmps52
 go_upto_if 14 with (first | ((with_reducible refine gate_dst (N := 1) rfl ?_); refine box_event ?hg (N := 1) ?hd (cs := #[.string a0_0, .int .i64 a0_1, .int .i64 a0_2, .int .i64 a0_3, .int .i64 a0_4]) (t := 37) ?hr ?_; (case hd => rfl); (case hg => rfl); (case hr => first | (go_simp; done) | (go_simp; rfl)); intro gb621 hg w4 hbox hb; have n0_ := zK (zL (by repeat (first | (with_reducible first | exact HB.out | apply zA | apply zB | apply zC) | exact HB.out)) hb); have n1_ := zK (hbox); have n2_ := zK ((by rw [hg]; exact (zN (by repeat (first | (with_reducible first | exact HB.out | apply zA | apply zB | apply zC) | exact HB.out))) : w.heap.size ≤ gb621)); have n3_ := n2_; clear HB; have HB := n0_; have BK621 := n1_; have GW621 := n2_; have GE621 := n3_; clear n0_ n1_ n2_ n3_; clear hb hbox hg; have hcz5_0 : w4.cell? ⟨gb621, 0, none⟩ = some (.string a0_0) := (zI BK621.out 0).trans rfl; have hcz5_1 : w4.cell? ⟨gb621, 1, none⟩ = some (.int .i64 a0_1) := (zI BK621.out 1).trans rfl; have hcz5_2 : w4.cell? ⟨gb621, 2, none⟩ = some (.int .i64 a0_2) := (zI BK621.out 2).trans rfl; have hcz5_3 : w4.cell? ⟨gb621, 3, none⟩ = some (.int .i64 a0_3) := (zI BK621.out 3).trans rfl; have hcz5_4 : w4.cell? ⟨gb621, 4, none⟩ = some (.int .i64 a0_4) := (zI BK621.out 4).trans rfl; have hfz5_0 := zH BK621.out 0; have hfz5_1 := zH BK621.out 1; have hfz5_2 := zH BK621.out 2; have hfz5_3 := zH BK621.out 3; have hfz5_4 := zH BK621.out 4) | ((with_reducible refine gate_callee (f := 66) rfl ?_); refine goesL_ (some 9) rfl rfl Try.func66 (by kernel_rfl) rfl #[.string a0_0] rfl (by (try simp only [z6, z7, z8]); first | done | rfl | (simp only [z4, z5]; rfl)) ?_; (with_reducible refine (impl_formOf.calls k a0_0 t622 t623 t624 t625 t626 t627 t628 _ A2.out).mono ?_); rintro e w6 ⟨rfl, hb⟩; refine ⟨_, rfl, ?_⟩; have n0_ := zK (zM (g := gb621) (o := .cells #[.string a0_0, .int .i64 a0_1, .int .i64 a0_2, .int .i64 a0_3, .int .i64 a0_4] 37 (0, 0)) (by (with_reducible repeat (first | refine zE ?_ _ | refine zF ?_ | refine zG ?_ _)); exact BK621.out) hb); have n1_ := zK (zL (by repeat (first | (with_reducible first | exact HB.out | apply zA | apply zB | apply zC | refine zD ?_ GE621.out) | exact HB.out)) hb); clear BK621; clear HB; have BK621 := n0_; have HB := n1_; clear n0_ n1_; (try clear hb); (try clear hb2); (try clear hk); (try clear hi)) | ((with_reducible refine gate_dst (N := 3) rfl ?_); refine box_event ?hg (N := 3) ?hd (cs := #[.bool false, .bool false, .int .i64 0, .int .i64 0, .int .i64 0, .string (⟨#[]⟩ : ByteArray)]) (t := 86) ?hr ?_; (case hd => rfl); (case hg => rfl); (case hr => first | (go_simp; done) | (go_simp; rfl)); intro gb629 hg w7 hbox hb; have n0_ := zK (zM (g := gb621) (o := .cells #[.string a0_0, .int .i64 a0_1, .int .i64 a0_2, .int .i64 a0_3, .int .i64 a0_4] 37 (0, 0)) (by (with_reducible repeat (first | refine zE ?_ _ | refine zF ?_ | refine zG ?_ _)); exact BK621.out) hb); have n1_ := zK (zL (by repeat (first | (with_reducible first | exact HB.out | apply zA | apply zB | apply zC | refine zD ?_ GE621.out) | exact HB.out)) hb); have n2_ := zK (hbox); have n3_ := zK ((by rw [hg]; exact (zN (by repeat (first | (with_reducible first | exact HB.out | apply zA | apply zB | apply zC | refine zD ?_ GE621.out) | exact HB.out))) : w.heap.size ≤ gb629)); have n4_ := n3_; have n5_ := zK ((by rw [hg]; exact Nat.ne_of_lt (blk_lt (g := gb621) (o := .cells #[.string a0_0, .int .i64 a0_1, .int .i64 a0_2, .int .i64 a0_3, .int .i64 a0_4] 37 (0, 0)) (by (with_reducible repeat (first | refine zE ?_ _ | refine zF ?_ | refine zG ?_ _)); exact BK621.out)) : gb621 ≠ gb629)); have n6_ := zK n5_.out.symm; clear BK621; clear HB; have BK621 := n0_; have HB := n1_; have BK629 := n2_; have GW629 := n3_; have GE629 := n4_; have NB621_629 := n5_; have NB629_621 := n6_; clear n0_ n1_ n2_ n3_ n4_ n5_ n6_; clear hb hbox hg; have hnb8 := NB629_621.out; have hnc8 := NB621_629.out; have hcz9_0 : w7.cell? ⟨gb629, 0, none⟩ = some (.bool false) := (zI BK629.out 0).trans rfl; have hcz9_1 : w7.cell? ⟨gb629, 1, none⟩ = some (.bool false) := (zI BK629.out 1).trans rfl; have hcz9_2 : w7.cell? ⟨gb629, 2, none⟩ = some (.int .i64 0) := (zI BK629.out 2).trans rfl; have hcz9_3 : w7.cell? ⟨gb629, 3, none⟩ = some (.int .i64 0) := (zI BK629.out 3).trans rfl; have hcz9_4 : w7.cell? ⟨gb629, 4, none⟩ = some (.int .i64 0) := (zI BK629.out 4).trans rfl; have hcz9_5 : w7.cell? ⟨gb629, 5, none⟩ = some (.string (⟨#[]⟩ : ByteArray)) := (zI BK629.out 5).trans rfl; have hfz9_0 := zH BK629.out 0; have hfz9_1 := zH BK629.out 1; have hfz9_2 := zH BK629.out 2; have hfz9_3 := zH BK629.out 3; have hfz9_4 := zH BK629.out 4; have hfz9_5 := zH BK629.out 5) | ((with_reducible refine gate_dst (N := 12) rfl ?_); refine Kd.R_lit (Kd.int .i64) _ 3 ?hg (N := 12) ?hd (xs := ([] : List Int)) (inner := []) (ok := fun _ => True) (okp := fun _ => True) ?hr ?hp (fun _ hk => hk) trivial (Below.refl _ _) (Nat.le_refl _) (by simp) ?_; (case hd => rfl); (case hg => rfl); (case hr => first | (go_simp; done) | (go_simp; rfl)); (case hp => exact (Reps.none _ _)); intro v631 w10 ho11 hb hg_ hnew_; clear hg_ hnew_; (first | rw [← Ny630.out] at ho11 | (simp only [Int.reduceToNat] at ho11; rw [← Ny630.out] at ho11)); have n0_ := zK (Kd.R_lower ho11 (zN (by repeat (first | (with_reducible first | exact HB.out | apply zA | apply zB | apply zC | refine zD ?_ GE621.out | refine zD ?_ GE629.out) | exact HB.out)))); have n1_ := zK (zM (g := gb621) (o := .cells #[.string a0_0, .int .i64 a0_1, .int .i64 a0_2, .int .i64 a0_3, .int .i64 a0_4] 37 (0, 0)) (by (with_reducible repeat (first | refine zE ?_ _ | refine zF ?_ | refine zG ?_ _)); refine blk_far ?_ NB621_629.out _; (with_reducible repeat (first | refine zE ?_ _ | refine zF ?_ | refine zG ?_ _)); refine blk_far ?_ NB621_629.out _; (with_reducible repeat (first | refine zE ?_ _ | refine zF ?_ | refine zG ?_ _)); refine blk_far ?_ NB621_629.out _; (with_reducible repeat (first | refine zE ?_ _ | refine zF ?_ | refine zG ?_ _)); refine blk_far ?_ NB621_629.out _; (with_reducible repeat (first | refine zE ?_ _ | refine zF ?_ | refine zG ?_ _)); refine blk_far ?_ NB621_629.out _; (with_reducible repeat (first | refine zE ?_ _ | refine zF ?_ | refine zG ?_ _)); refine blk_far ?_ NB621_629.out _; (with_reducible repeat (first | refine zE ?_ _ | refine zF ?_ | refine zG ?_ _)); exact BK621.out) hb); have n2_ := zK (zM (g := gb629) (o := .cells #[.bool t622, .bool t623, .int .i64 t624, .int .i64 t625, .int .i64 t626, .string t627] 86 (0, 0)) (by (with_reducible repeat (first | refine zE ?_ _ | refine zF ?_ | refine zG ?_ _)); refine blk_put (cs := #[.bool t622, .bool t623, .int .i64 t624, .int .i64 t625, .int .i64 t626, .string (⟨#[]⟩ : ByteArray)]) ?_ 5 _ rfl; (with_reducible repeat (first | refine zE ?_ _ | refine zF ?_ | refine zG ?_ _)); refine blk_put (cs := #[.bool t622, .bool t623, .int .i64 t624, .int .i64 t625, .int .i64 0, .string (⟨#[]⟩ : ByteArray)]) ?_ 4 _ rfl; (with_reducible repeat (first | refine zE ?_ _ | refine zF ?_ | refine zG ?_ _)); refine blk_put (cs := #[.bool t622, .bool t623, .int .i64 t624, .int .i64 0, .int .i64 0, .string (⟨#[]⟩ : ByteArray)]) ?_ 3 _ rfl; (with_reducible repeat (first | refine zE ?_ _ | refine zF ?_ | refine zG ?_ _)); refine blk_put (cs := #[.bool t622, .bool t623, .int .i64 0, .int .i64 0, .int .i64 0, .string (⟨#[]⟩ : ByteArray)]) ?_ 2 _ rfl; (with_reducible repeat (first | refine zE ?_ _ | refine zF ?_ | refine zG ?_ _)); refine blk_put (cs := #[.bool t622, .bool false, .int .i64 0, .int .i64 0, .int .i64 0, .string (⟨#[]⟩ : ByteArray)]) ?_ 1 _ rfl; (with_reducible repeat (first | refine zE ?_ _ | refine zF ?_ | refine zG ?_ _)); refine blk_put (cs := #[.bool false, .bool false, .int .i64 0, .int .i64 0, .int .i64 0, .string (⟨#[]⟩ : ByteArray)]) ?_ 0 _ rfl; (with_reducible repeat (first | refine zE ?_ _ | refine zF ?_ | refine zG ?_ _)); exact BK629.out) hb); have n3_ := zK (zL (by repeat (first | (with_reducible first | exact HB.out | apply zA | apply zB | apply zC | refine zD ?_ GE621.out | refine zD ?_ GE629.out) | exact HB.out)) hb); clear BK621; clear BK629; clear HB; have HO632 := n0_; have BK621 := n1_; have BK629 := n2_; have HB := n3_; clear n0_ n1_ n2_ n3_; clear hb ho11; have hcz12_0 : w10.cell? ⟨gb629, 0, none⟩ = some (.bool t622) := (zI BK629.out 0).trans rfl; have hcz12_1 : w10.cell? ⟨gb629, 1, none⟩ = some (.bool t623) := (zI BK629.out 1).trans rfl; have hcz12_2 : w10.cell? ⟨gb629, 2, none⟩ = some (.int .i64 t624) := (zI BK629.out 2).trans rfl; have hcz12_3 : w10.cell? ⟨gb629, 3, none⟩ = some (.int .i64 t625) := (zI BK629.out 3).trans rfl; have hcz12_4 : w10.cell? ⟨gb629, 4, none⟩ = some (.int .i64 t626) := (zI BK629.out 4).trans rfl; have hcz12_5 : w10.cell? ⟨gb629, 5, none⟩ = some (.string t627) := (zI BK629.out 5).trans rfl; have hfz12_0 := zH BK629.out 0; have hfz12_1 := zH BK629.out 1; have hfz12_2 := zH BK629.out 2; have hfz12_3 := zH BK629.out 3; have hfz12_4 := zH BK629.out 4; have hfz12_5 := zH BK629.out 5))
 (try simp only [Act.put, z1, z2, z3])
 go_cut [5] (fun v5 wc => ∃ (kq : Nat) (x5_2 : List Int), Aside0 (impl_Instr_reads.j0 kq x5_2 a0_0 a0_1 a0_2 a0_3 a0_4 t622 t623 t624 t625 t626 t627 = some r) ∧ Aside0 (kq ≤ k) ∧ Aside0 (Kd.R (Kd.int .i64) 3 wc w.heap.size (fun _ => True) v5 x5_2) ∧ Aside0 (wc.heap[gb621]? = some (.cells #[.string a0_0, .int .i64 a0_1, .int .i64 a0_2, .int .i64 a0_3, .int .i64 a0_4] 37 (0, 0))) ∧ Aside0 (wc.heap[gb629]? = some (.cells #[.bool t622, .bool t623, .int .i64 t624, .int .i64 t625, .int .i64 t626, .string t627] 86 (0, 0))) ∧ Aside0 (Below w.heap.size w wc))
 case first =>
  have H := HC3.out
  clear HC3
  by_cases c13 : t622 = true
  ·subst c13
   rw [if_pos rfl] at H
   by_cases c14 : y630.length < 17592186044416
   ·rw [if_pos c14] at H
    have LMc14 := zK c14
    clear c14
    obtain ⟨y633, hy633⟩ : ∃ y_ : List Int, y_ = (y630 ++ [a0_2]) := ⟨_, rfl⟩
    replace H : (impl_Instr_reads.j0 k y633 a0_0 a0_1 a0_2 a0_3 a0_4 true t623 t624 t625 t626 t627) = some r := by first | (rw [hy633]; with_reducible exact H) | (have H2_ := (Option.bind_some _ _).symm.trans H; rw [hy633]; with_reducible exact H2_) | (have H2_ := (Option.bind_some _ _).symm.trans H; with_reducible exact H2_) | with_reducible exact H | (rw [hy633]; exact H) | exact H
    have Ny633 := zK hy633
    clear hy633
    have H' := zK H
    clear H
    have hnb15 := NB621_629.out
    have hnc15 := NB629_621.out
    have hcz16_0 : w10.cell? ⟨gb621, 0, none⟩ = some (.string a0_0) := (zI BK621.out 0).trans rfl
    have hcz16_1 : w10.cell? ⟨gb621, 1, none⟩ = some (.int .i64 a0_1) := (zI BK621.out 1).trans rfl
    have hcz16_2 : w10.cell? ⟨gb621, 2, none⟩ = some (.int .i64 a0_2) := (zI BK621.out 2).trans rfl
    have hcz16_3 : w10.cell? ⟨gb621, 3, none⟩ = some (.int .i64 a0_3) := (zI BK621.out 3).trans rfl
    have hcz16_4 : w10.cell? ⟨gb621, 4, none⟩ = some (.int .i64 a0_4) := (zI BK621.out 4).trans rfl
    have hfz16_0 := zH BK621.out 0
    have hfz16_1 := zH BK621.out 1
    have hfz16_2 := zH BK621.out 2
    have hfz16_3 := zH BK621.out 3
    have hfz16_4 := zH BK621.out 4
    go_wp2_with (first | ((with_reducible refine gate_builtin (b := .append) (xs := #[.tmp 15, .tmp 18]) rfl ?_); at_builtin; refine Kd.R_append (Kd.int .i64) (w0 := w) w.heap.size rfl (.tmp 15) (.tmp 18) 34 3 (.int .i64 0) 8 rfl Try.underlying34 info3 rfl (by decide) (by omega) v631 y630 a0_2 [.int .i64 a0_2] (fun _ => True) (fun _ => False) rfl rfl ?aP (fun _ hk => hk.elim) ?aF ?aO ?aB ?aS ?aL ?_; (case aP => exact rfl); (case aB => exact (by repeat (first | (with_reducible first | exact HB.out | apply zA | apply zB | apply zC | refine zD ?_ GE621.out | refine zD ?_ GE629.out) | exact HB.out))); (case aF => exact (fun _ _ => trivial)); (case aO => exact (by (with_reducible repeat (first | apply Kd.R_alloc | apply Kd.R_drewN | apply Kd.R_drew)); exact HO632.out)); (case aS => exact (zN (by repeat (first | (with_reducible first | exact HB.out | apply zA | apply zB | apply zC | refine zD ?_ GE621.out | refine zD ?_ GE629.out) | exact HB.out)))); (case aL => have := LMc14.out; omega); intro v634 w17 ho hb hg hat; rw [← Ny633.out] at ho; have n0_ := zK (blk_grown (g := gb621) (o := .cells #[.string a0_0, .int .i64 a0_1, .int .i64 a0_2, .int .i64 a0_3, .int .i64 a0_4] 37 (0, 0)) (by (with_reducible repeat (first | refine zE ?_ _ | refine zF ?_ | refine zG ?_ _)); exact BK621.out) hg (Kd.R_ne HO632.out BK621.out (by decide))); have n1_ := zK (blk_grown (g := gb629) (o := .cells #[.bool true, .bool t623, .int .i64 t624, .int .i64 t625, .int .i64 t626, .string t627] 86 (0, 0)) (by (with_reducible repeat (first | refine zE ?_ _ | refine zF ?_ | refine zG ?_ _)); exact BK629.out) hg (Kd.R_ne HO632.out BK629.out (by decide))); have n2_ := zK (hb); have n3_ := zK (ho); clear BK621; clear BK629; clear HB; clear HO632; have BK621 := n0_; have BK629 := n1_; have HB := n2_; have HO635 := n3_; clear n0_ n1_ n2_ n3_; clear ho hb hg hat))
    go_meet
    case rel => exact ⟨_, (y633), H', ⟨by first | omega | exact Nat.le_refl _⟩, ⟨by (with_reducible repeat (first | apply Kd.R_alloc | apply Kd.R_drewN | apply Kd.R_drew)); exact HO635.out⟩, ⟨by (with_reducible repeat (first | refine zE ?_ _ | refine zF ?_ | refine zG ?_ _)); exact BK621.out⟩, ⟨by (with_reducible repeat (first | refine zE ?_ _ | refine zF ?_ | refine zG ?_ _)); exact BK629.out⟩, ⟨by repeat (first | (with_reducible first | exact HB.out | apply zA | apply zB | apply zC | refine zD ?_ GE621.out | refine zD ?_ GE629.out) | exact HB.out)⟩⟩
   ·rw [if_neg c14] at H
    exact absurd H (by simp)
  ·replace c13 := Bool.eq_false_iff.mpr c13
   subst c13
   rw [if_neg (show ¬ (false = true) by decide)] at H
   have H' := zK H
   clear H
   go_wp2
   go_meet
   case rel => exact ⟨_, (y630), H', ⟨by first | omega | exact Nat.le_refl _⟩, ⟨by (with_reducible repeat (first | apply Kd.R_alloc | apply Kd.R_drewN | apply Kd.R_drew)); exact HO632.out⟩, ⟨by (with_reducible repeat (first | refine zE ?_ _ | refine zF ?_ | refine zG ?_ _)); exact BK621.out⟩, ⟨by (with_reducible repeat (first | refine zE ?_ _ | refine zF ?_ | refine zG ?_ _)); exact BK629.out⟩, ⟨by repeat (first | (with_reducible first | exact HB.out | apply zA | apply zB | apply zC | refine zD ?_ GE621.out | refine zD ?_ GE629.out) | exact HB.out)⟩⟩
 case rest =>
  clear HC3
  try clear c1
  try clear p2
  try clear c5
  try clear c6
  try clear c8
  try clear c13
  try clear c14
  try clear c15
  try clear hcz12_0
  try clear hcz12_1
  try clear hcz12_2
  try clear hcz12_3
  try clear hcz12_4
  try clear hcz12_5
  try clear hcz16_0
  try clear hcz16_1
  try clear hcz16_2
  try clear hcz16_3
  try clear hcz16_4
  try clear hcz5_0
  try clear hcz5_1
  try clear hcz5_2
  try clear hcz5_3
  try clear hcz5_4
  try clear hcz9_0
  try clear hcz9_1
  try clear hcz9_2
  try clear hcz9_3
  try clear hcz9_4
  try clear hcz9_5
  try clear hfz12_0
  try clear hfz12_1
  try clear hfz12_2
  try clear hfz12_3
  try clear hfz12_4
  try clear hfz12_5
  try clear hfz16_0
  try clear hfz16_1
  try clear hfz16_2
  try clear hfz16_3
  try clear hfz16_4
  try clear hfz5_0
  try clear hfz5_1
  try clear hfz5_2
  try clear hfz5_3
  try clear hfz5_4
  try clear hfz9_0
  try clear hfz9_1
  try clear hfz9_2
  try clear hfz9_3
  try clear hfz9_4
  try clear hfz9_5
  obtain ⟨kq, x5_2, HA, HJ2, HO_5, BK621, BK629, HB⟩ := hcut
  cases kq with
  | zero => exact absurd HA.out (by simp [impl_Instr_reads.j0])
  | succ kj2 =>
   have H := HA.out
   clear HA
   simp only [impl_Instr_reads.j0] at H
   by_cases c18 : t623 = true
   ·subst c18
    rw [if_pos rfl] at H
    by_cases c19 : x5_2.length < 17592186044416
    ·rw [if_pos c19] at H
     have LMc19 := zK c19
     clear c19
     obtain ⟨y636, hy636⟩ : ∃ y_ : List Int, y_ = (x5_2 ++ [a0_3]) := ⟨_, rfl⟩
     replace H : ((slices_Sort_int_int.f kj2 y636).bind fun t639 => ((slices_Compact_int_int.f kj2 t639).bind fun t640 => (some t640))) = some r := by first | (rw [hy636]; with_reducible exact H) | (have H2_ := (Option.bind_some _ _).symm.trans H; rw [hy636]; with_reducible exact H2_) | (have H2_ := (Option.bind_some _ _).symm.trans H; with_reducible exact H2_) | with_reducible exact H | (rw [hy636]; exact H) | exact H
     have Ny636 := zK hy636
     clear hy636
     replace H := Option.bind_eq_some_iff.mp H
     obtain ⟨t639, A200, H⟩ := H
     replace H : ((slices_Compact_int_int.f kj2 t639).bind fun t640 => (some t640)) = some r := H
     have A20 := zK A200
     clear A200
     replace H := Option.bind_eq_some_iff.mp H
     obtain ⟨t640, A210, H⟩ := H
     replace H : (some t640) = some r := H
     have A21 := zK A210
     clear A210
     obtain rfl := Option.some.inj H
     have hnb22 := NB629_621.out
     have hnc22 := NB621_629.out
     have hcz23_0 : wc.cell? ⟨gb629, 0, none⟩ = some (.bool t622) := (zI BK629.out 0).trans rfl
     have hcz23_1 : wc.cell? ⟨gb629, 1, none⟩ = some (.bool true) := (zI BK629.out 1).trans rfl
     have hcz23_2 : wc.cell? ⟨gb629, 2, none⟩ = some (.int .i64 t624) := (zI BK629.out 2).trans rfl
     have hcz23_3 : wc.cell? ⟨gb629, 3, none⟩ = some (.int .i64 t625) := (zI BK629.out 3).trans rfl
     have hcz23_4 : wc.cell? ⟨gb629, 4, none⟩ = some (.int .i64 t626) := (zI BK629.out 4).trans rfl
     have hcz23_5 : wc.cell? ⟨gb629, 5, none⟩ = some (.string t627) := (zI BK629.out 5).trans rfl
     have hfz23_0 := zH BK629.out 0
     have hfz23_1 := zH BK629.out 1
     have hfz23_2 := zH BK629.out 2
     have hfz23_3 := zH BK629.out 3
     have hfz23_4 := zH BK629.out 4
     have hfz23_5 := zH BK629.out 5
     have hcz24_0 : wc.cell? ⟨gb621, 0, none⟩ = some (.string a0_0) := (zI BK621.out 0).trans rfl
     have hcz24_1 : wc.cell? ⟨gb621, 1, none⟩ = some (.int .i64 a0_1) := (zI BK621.out 1).trans rfl
     have hcz24_2 : wc.cell? ⟨gb621, 2, none⟩ = some (.int .i64 a0_2) := (zI BK621.out 2).trans rfl
     have hcz24_3 : wc.cell? ⟨gb621, 3, none⟩ = some (.int .i64 a0_3) := (zI BK621.out 3).trans rfl
     have hcz24_4 : wc.cell? ⟨gb621, 4, none⟩ = some (.int .i64 a0_4) := (zI BK621.out 4).trans rfl
     have hfz24_0 := zH BK621.out 0
     have hfz24_1 := zH BK621.out 1
     have hfz24_2 := zH BK621.out 2
     have hfz24_3 := zH BK621.out 3
     have hfz24_4 := zH BK621.out 4
     go_wp2_with (first | ((with_reducible refine gate_builtin (b := .append) (xs := #[.tmp 22, .tmp 25]) rfl ?_); at_builtin; refine Kd.R_append (Kd.int .i64) (w0 := w) w.heap.size rfl (.tmp 22) (.tmp 25) 34 3 (.int .i64 0) 8 rfl Try.underlying34 info3 rfl (by decide) (by omega) u5 x5_2 a0_3 [.int .i64 a0_3] (fun _ => True) (fun _ => False) rfl rfl ?aP (fun _ hk => hk.elim) ?aF ?aO ?aB ?aS ?aL ?_; (case aP => exact rfl); (case aB => exact (by repeat (first | (with_reducible first | exact HB.out | apply zA | apply zB | apply zC | refine zD ?_ GE621.out | refine zD ?_ GE629.out) | exact HB.out))); (case aF => exact (fun _ _ => trivial)); (case aO => exact (by (with_reducible repeat (first | apply Kd.R_alloc | apply Kd.R_drewN | apply Kd.R_drew)); exact HO_5.out)); (case aS => exact (zN (by repeat (first | (with_reducible first | exact HB.out | apply zA | apply zB | apply zC | refine zD ?_ GE621.out | refine zD ?_ GE629.out) | exact HB.out)))); (case aL => have := LMc19.out; omega); intro v637 w25 ho hb hg hat; rw [← Ny636.out] at ho; have n0_ := zK (blk_grown (g := gb621) (o := .cells #[.string a0_0, .int .i64 a0_1, .int .i64 a0_2, .int .i64 a0_3, .int .i64 a0_4] 37 (0, 0)) (by (with_reducible repeat (first | refine zE ?_ _ | refine zF ?_ | refine zG ?_ _)); exact BK621.out) hg (Kd.R_ne HO_5.out BK621.out (by decide))); have n1_ := zK (blk_grown (g := gb629) (o := .cells #[.bool t622, .bool true, .int .i64 t624, .int .i64 t625, .int .i64 t626, .string t627] 86 (0, 0)) (by (with_reducible repeat (first | refine zE ?_ _ | refine zF ?_ | refine zG ?_ _)); exact BK629.out) hg (Kd.R_ne HO_5.out BK629.out (by decide))); have n2_ := zK (hb); have n3_ := zK (ho); clear BK621; clear BK629; clear HB; clear HO_5; have BK621 := n0_; have BK629 := n1_; have HB := n2_; have HO638 := n3_; clear n0_ n1_ n2_ n3_; clear ho hb hg hat; obtain ⟨Ao26, co26, eo26⟩ := Kd.R_slice HO638.out; subst eo26) | ((with_reducible refine gate_callee (f := 64) rfl ?_); refine goesL_ (some 28) rfl rfl Try.func64 (by kernel_rfl) rfl #[.slice Ao26 y636.length co26] rfl (by (try simp only [z6, z7, z8]); first | done | rfl | (simp only [z4, z5]; rfl)) ?_; (with_reducible refine (slices_Sort_int_int.calls kj2 (fun k_ => some k_ = (.slice Ao26 y636.length co26 : Value).ownBlock) (.slice Ao26 y636.length co26) y636 t639 w _ ?side1 ?side2 A20.out).mono ?_); (case side1 => repeat (first | (with_reducible first | exact HB.out | apply zA | apply zB | apply zC | refine zD ?_ GE621.out | refine zD ?_ GE629.out) | exact HB.out)); (case side2 => exact Kd.R_tight rfl HO638.out); rintro e w27 ⟨rfl, hy0, hb, hkp⟩; refine ⟨_, rfl, ?_⟩; have n0_ := zK (blk_kept (by (with_reducible repeat (first | refine zE ?_ _ | refine zF ?_ | refine zG ?_ _)); exact BK621.out) hkp (fun hs_ => (fun e_ => (Kd.R_ne HO638.out BK621.out (by decide)) e_) hs_)); have n1_ := zK (blk_kept (by (with_reducible repeat (first | refine zE ?_ _ | refine zF ?_ | refine zG ?_ _)); exact BK629.out) hkp (fun hs_ => (fun e_ => (Kd.R_ne HO638.out BK629.out (by decide)) e_) hs_)); have n2_ := zK (Kd.R_reok rfl hy0 (fun k_ e_ => HO638.out.1 k_ e_)); have n3_ := zK (hb); clear BK621; clear BK629; clear HO638; clear HB; have BK621 := n0_; have BK629 := n1_; have HO638 := n2_; have HB := n3_; clear n0_ n1_ n2_ n3_; (try clear hb); (try clear hkp); (try clear hy0)) | ((with_reducible refine gate_callee (f := 94) rfl ?_); refine goesL_ (some 30) rfl rfl Try.func94 (by kernel_rfl) rfl #[.slice Ao26 y636.length co26] rfl (by (try simp only [z6, z7, z8]); first | done | rfl | (simp only [z4, z5]; rfl)) ?_; (with_reducible refine (slices_Compact_int_int.calls kj2 (fun k_ => some k_ = (.slice Ao26 y636.length co26 : Value).ownBlock) (.slice Ao26 y636.length co26) t639 t640 w _ ?side1 ?side2 A21.out).mono ?_); (case side1 => repeat (first | (with_reducible first | exact HB.out | apply zA | apply zB | apply zC | refine zD ?_ GE621.out | refine zD ?_ GE629.out) | exact HB.out)); (case side2 => exact Kd.R_tight rfl HO638.out); rintro e w28 ⟨v641, rfl, ho0, hb, hkp⟩; refine ⟨_, rfl, ?_⟩; have n0_ := zK (blk_kept (by (with_reducible repeat (first | refine zE ?_ _ | refine zF ?_ | refine zG ?_ _)); exact BK621.out) hkp (fun hs_ => (fun e_ => (Kd.R_ne HO638.out BK621.out (by decide)) e_) hs_)); have n1_ := zK (blk_kept (by (with_reducible repeat (first | refine zE ?_ _ | refine zF ?_ | refine zG ?_ _)); exact BK629.out) hkp (fun hs_ => (fun e_ => (Kd.R_ne HO638.out BK629.out (by decide)) e_) hs_)); have n2_ := zK (Kd.R_mono (ok' := fun k_ => True) ho0 (fun k_ hk_ => trivial)); have n3_ := zK (hb); clear BK621; clear BK629; clear HB; clear HO638; have BK621 := n0_; have BK629 := n1_; have HO642 := n2_; have HB := n3_; clear n0_ n1_ n2_ n3_; (try clear hb); (try clear hkp); (try clear ho0)))
     go_ret
     exact ⟨_, by first | rfl | (simp [errW_none, errW_some] <;> rfl) | (simp [*, errW_none, errW_some] <;> rfl), by (with_reducible repeat (first | apply Kd.R_alloc | apply Kd.R_drewN | apply Kd.R_drew)); exact HO642.out, by repeat (first | (with_reducible first | exact HB.out | apply zA | apply zB | apply zC | refine zD ?_ GE621.out | refine zD ?_ GE629.out) | exact HB.out)⟩
    ·rw [if_neg c19] at H
     exact absurd H (by simp)
   ·replace c18 := Bool.eq_false_iff.mpr c18
    subst c18
    rw [if_neg (show ¬ (false = true) by decide)] at H
    replace H := Option.bind_eq_some_iff.mp H
    obtain ⟨t643, A290, H⟩ := H
    replace H : ((slices_Compact_int_int.f kj2 t643).bind fun t644 => (some t644)) = some r := H
    have A29 := zK A290
    clear A290
    replace H := Option.bind_eq_some_iff.mp H
    obtain ⟨t644, A300, H⟩ := H
    replace H : (some t644) = some r := H
    have A30 := zK A300
    clear A300
    obtain rfl := Option.some.inj H
    have hnb31 := NB629_621.out
    have hnc31 := NB621_629.out
    have hcz32_0 : wc.cell? ⟨gb629, 0, none⟩ = some (.bool t622) := (zI BK629.out 0).trans rfl
    have hcz32_1 : wc.cell? ⟨gb629, 1, none⟩ = some (.bool false) := (zI BK629.out 1).trans rfl
    have hcz32_2 : wc.cell? ⟨gb629, 2, none⟩ = some (.int .i64 t624) := (zI BK629.out 2).trans rfl
    have hcz32_3 : wc.cell? ⟨gb629, 3, none⟩ = some (.int .i64 t625) := (zI BK629.out 3).trans rfl
    have hcz32_4 : wc.cell? ⟨gb629, 4, none⟩ = some (.int .i64 t626) := (zI BK629.out 4).trans rfl
    have hcz32_5 : wc.cell? ⟨gb629, 5, none⟩ = some (.string t627) := (zI BK629.out 5).trans rfl
    have hfz32_0 := zH BK629.out 0
    have hfz32_1 := zH BK629.out 1
    have hfz32_2 := zH BK629.out 2
    have hfz32_3 := zH BK629.out 3
    have hfz32_4 := zH BK629.out 4
    have hfz32_5 := zH BK629.out 5
    obtain ⟨Ao33, co33, eo33⟩ := Kd.R_slice HO_5.out
    subst eo33
    go_wp2_with (first | ((with_reducible refine gate_callee (f := 64) rfl ?_); refine goesL_ (some 28) rfl rfl Try.func64 (by kernel_rfl) rfl #[.slice Ao33 x5_2.length co33] rfl (by (try simp only [z6, z7, z8]); first | done | rfl | (simp only [z4, z5]; rfl)) ?_; (with_reducible refine (slices_Sort_int_int.calls kj2 (fun k_ => some k_ = (.slice Ao33 x5_2.length co33 : Value).ownBlock) (.slice Ao33 x5_2.length co33) x5_2 t643 w _ ?side1 ?side2 A29.out).mono ?_); (case side1 => repeat (first | (with_reducible first | exact HB.out | apply zA | apply zB | apply zC | refine zD ?_ GE621.out | refine zD ?_ GE629.out) | exact HB.out)); (case side2 => exact Kd.R_tight rfl HO_5.out); rintro e w34 ⟨rfl, hy0, hb, hkp⟩; refine ⟨_, rfl, ?_⟩; have n0_ := zK (Kd.R_reok rfl hy0 (fun k_ e_ => HO_5.out.1 k_ e_)); have n1_ := zK (blk_kept (by (with_reducible repeat (first | refine zE ?_ _ | refine zF ?_ | refine zG ?_ _)); exact BK621.out) hkp (fun hs_ => (fun e_ => (Kd.R_ne HO_5.out BK621.out (by decide)) e_) hs_)); have n2_ := zK (blk_kept (by (with_reducible repeat (first | refine zE ?_ _ | refine zF ?_ | refine zG ?_ _)); exact BK629.out) hkp (fun hs_ => (fun e_ => (Kd.R_ne HO_5.out BK629.out (by decide)) e_) hs_)); have n3_ := zK (hb); clear HO_5; clear BK621; clear BK629; clear HB; have HO_5 := n0_; have BK621 := n1_; have BK629 := n2_; have HB := n3_; clear n0_ n1_ n2_ n3_; (try clear hb); (try clear hkp); (try clear hy0)) | ((with_reducible refine gate_callee (f := 94) rfl ?_); refine goesL_ (some 30) rfl rfl Try.func94 (by kernel_rfl) rfl #[.slice Ao33 x5_2.length co33] rfl (by (try simp only [z6, z7, z8]); first | done | rfl | (simp only [z4, z5]; rfl)) ?_; (with_reducible refine (slices_Compact_int_int.calls kj2 (fun k_ => some k_ = (.slice Ao33 x5_2.length co33 : Value).ownBlock) (.slice Ao33 x5_2.length co33) t643 t644 w _ ?side1 ?side2 A30.out).mono ?_); (case side1 => repeat (first | (with_reducible first | exact HB.out | apply zA | apply zB | apply zC | refine zD ?_ GE621.out | refine zD ?_ GE629.out) | exact HB.out)); (case side2 => exact Kd.R_tight rfl HO_5.out); rintro e w35 ⟨v645, rfl, ho0, hb, hkp⟩; refine ⟨_, rfl, ?_⟩; have n0_ := zK (blk_kept (by (with_reducible repeat (first | refine zE ?_ _ | refine zF ?_ | refine zG ?_ _)); exact BK621.out) hkp (fun hs_ => (fun e_ => (Kd.R_ne HO_5.out BK621.out (by decide)) e_) hs_)); have n1_ := zK (blk_kept (by (with_reducible repeat (first | refine zE ?_ _ | refine zF ?_ | refine zG ?_ _)); exact BK629.out) hkp (fun hs_ => (fun e_ => (Kd.R_ne HO_5.out BK629.out (by decide)) e_) hs_)); have n2_ := zK (Kd.R_mono (ok' := fun k_ => True) ho0 (fun k_ hk_ => trivial)); have n3_ := zK (hb); clear BK621; clear BK629; clear HB; clear HO_5; have BK621 := n0_; have BK629 := n1_; have HO646 := n2_; have HB := n3_; clear n0_ n1_ n2_ n3_; (try clear hb); (try clear hkp); (try clear ho0)))
    go_ret
    exact ⟨_, by first | rfl | (simp [errW_none, errW_some] <;> rfl) | (simp [*, errW_none, errW_some] <;> rfl), by (with_reducible repeat (first | apply Kd.R_alloc | apply Kd.R_drewN | apply Kd.R_drew)); exact HO646.out, by repeat (first | (with_reducible first | exact HB.out | apply zA | apply zB | apply zC | refine zD ?_ GE621.out | refine zD ?_ GE629.out) | exact HB.out)⟩

end Go.Proofs.Ythnckplfnmkmpaa.F
