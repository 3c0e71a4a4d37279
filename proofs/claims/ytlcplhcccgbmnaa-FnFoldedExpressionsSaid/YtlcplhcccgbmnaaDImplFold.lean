/- Contracts: impl_fold, impl_FoldExpr, spec_exApply. -/
import Derived.Test.YtlcplhcccgbmnaaDK
import Derived.Test.YtlcplhcccgbmnaaDLawsBig
import Derived.Test.YtlcplhcccgbmnaaDImplIsExpr
import Derived.Test.YtlcplhcccgbmnaaDSpecL1CurAnyExpr
import Derived.Test.YtlcplhcccgbmnaaDImplNodeRenamed
namespace Go.Proofs.Ytlcplhcccgbmnaa.D
open Go.RowKit Go.Proofs.YtlcplhcccgbmnaaW.PrintWords Go.Proofs.YtlcplhcccgbmnaaW.PrintLast Go.Proofs.YtlcplhcccgbmnaaW.PrintMore
attribute [local go_sem] max2_int min2_int max_two min_two max_three min_three max_four min_four   -- for this text's walks alone
set_option linter.unusedVariables false
set_option linter.unusedSimpArgs false

/-! ### impl_fold: function 94 -/
mutual
def impl_fold.l0 : Nat → List (S47) → Int → Int → Option ((List (S47)))
 | 0, _, _, _ => none
 | k + 1, x3, x13, x14 => if x14 < x13 then (if 0 ≤ x14 then (if x14 < (x3.length : Int) then ((impl_operands.f k ((rd_T47 x3 x14).f0)).bind fun t414 => ((impl_Node_of.f k ((rd_T47 x3 x14).f0) ((rd_T47 x3 x14).f1) ((rd_T47 x3 x14).f2) ((rd_T47 x3 x14).f3)).bind fun t415 => (impl_fold.l1 k x3 x14 (([0, 0] : List Int)) (decide (t414 > 0)) x13 x14 t415 (t415.length : Int) 0 ((rd_T47 x3 x14).f0) ((rd_T47 x3 x14).f1) ((rd_T47 x3 x14).f2) ((rd_T47 x3 x14).f3)))) else (none)) else (none)) else ((impl_kept.f k x3 (wrap64 ((x3.length : Int) - 1))).bind fun t406 => (some t406))
def impl_fold.l1 : Nat → List (S47) → Int → List Int → Bool → Int → Int → List Int → Int → Int → ByteArray → Int → Int → Int → Option ((List (S47)))
 | 0, _, _, _, _, _, _, _, _, _, _, _, _, _ => none
 | k + 1, x3, x4, x6, x7, x13, x14, x25, x26, x27, x411000, x411001, x411002, x411003 => if x27 < x26 then (if 0 ≤ x27 then (if x27 < (x25.length : Int) then (if 0 ≤ (rd x25 x27) then (if (rd x25 x27) < (x3.length : Int) then (if x7 = true then (if x27 < (x6.length : Int) then (impl_fold.l1 k x3 x4 (x6.set (x27 : Int).toNat ((rd_T47 x3 (rd x25 x27)).f3)) (((rd_T47 x3 (rd x25 x27)).f0).toList == ([99, 111, 110, 115, 116] : List UInt8)) x13 x14 x25 x26 (wrap64 (x27 + 1)) x411000 x411001 x411002 x411003) else (none)) else (if x27 < (x6.length : Int) then (impl_fold.l1 k x3 x4 (x6.set (x27 : Int).toNat ((rd_T47 x3 (rd x25 x27)).f3)) false x13 x14 x25 x26 (wrap64 (x27 + 1)) x411000 x411001 x411002 x411003) else (none))) else (none)) else (none)) else (none)) else (none)) else (if x7 = true then (if 0 < (x6.length : Int) then (if 1 < (x6.length : Int) then ((impl_apply.f x411000 (rd x6 0) (rd x6 1)).bind fun t425 => (if 0 ≤ x4 then (if x4 < (x3.length : Int) then (impl_fold.l0 k (x3.set (x4 : Int).toNat (⟨(⟨#[99, 111, 110, 115, 116]⟩ : ByteArray), 0, 0, t425⟩ : S47)) x13 (wrap64 (x14 + 1))) else (none)) else (none))) else (none)) else (none)) else (impl_fold.l0 k x3 x13 (wrap64 (x14 + 1))))
end
def impl_fold.f (k : Nat) (l0 : List (S47)) : Option ((List (S47))) := (impl_Node_58.f l0).bind fun t403 => (impl_fold.l0 k t403 (t403.length : Int) 0)
def impl_fold.T9 : Bool × List (List Nat × List Nat) := (true, [([], []), ([], []), ([], []), ([], []), ([2, 3], [2, 3]), ([4], [4]), ([5], [5]), ([], []), ([7], [7]), ([8], [8]), ([8], [8]), ([9, 10, 8], [8, 9, 10]), ([11, 8], [8, 11]), ([12, 8], [8, 12]), ([13, 8], [8, 13]), ([8, 14], [8, 14]), ([0, 1, 0, 1, 2, 3, 4, 5, 6, 13], [0, 1]), ([16, 6, 8, 0, 1, 2, 3, 4, 5, 6, 13], [6, 16]), ([15, 17, 0, 1, 2, 3, 4, 5, 6, 7, 8, 9, 10, 11, 12, 13, 14, 15, 16, 17], [7, 15])])
def impl_fold.B9 : List Nat := [0, 0, 0, 0, 12, 28, 60, 0, 128, 384, 384, 1920, 3968, 8064, 16256, 32640, 16383, 81919, 262143]
theorem impl_fold.tab9 : rtab .any (opsOf Try.f94 9) = impl_fold.T9 := by kernel_rfl
theorem impl_fold.bits9 : waitsOk impl_fold.T9.2 impl_fold.B9 = true := by kernel_rfl
def impl_fold.T12 : Bool × List (List Nat × List Nat) := (true, [([], []), ([], []), ([], []), ([2], [2]), ([], []), ([4], [4]), ([5], [5]), ([], []), ([7], [7]), ([8], [8]), ([3, 6, 9], [3, 6, 9]), ([10], [10]), ([0, 1, 0, 1, 2, 3, 4, 5, 6, 7, 8, 9, 10, 11], [0, 1]), ([12, 11, 10, 0, 1, 2, 3, 4, 5, 6, 7, 8, 9, 10, 11], [11, 12])])
def impl_fold.B12 : List Nat := [0, 0, 0, 4, 0, 16, 48, 0, 128, 384, 1020, 2044, 4095, 8191]
theorem impl_fold.tab12 : rtab .any (opsOf Try.f94 12) = impl_fold.T12 := by kernel_rfl
theorem impl_fold.bits12 : waitsOk impl_fold.T12.2 impl_fold.B12 = true := by kernel_rfl
set_option maxHeartbeats 8000000 in
set_option maxRecDepth 100000 in
theorem impl_fold.calls (k : Nat) (A0 : Option Addr) (c0 : Nat) (l0 : List (S47)) (r : List (S47)) (w : World) (hr0 : Kd.C k47 w A0 l0.length l0) (hc0 : l0.length ≤ c0) (h : impl_fold.f k l0 = some r) :
  Calls Try.prog 94 #[.slice A0 l0.length c0] w fun e w' => ∃ v0_ : Value, e = .returned (v0_) ∧ Kd.R k47 47 w' w.heap.size (fun _ => True) v0_ r ∧ Below w.heap.size w w' := by
 have hu47 := Try.underlying47
 have HR0 := zK hr0
 have HC0 := zK hc0
 clear hr0 hc0
 have HB := zK (Below.refl w.heap.size w)
 have H : ((impl_Node_58.f l0).bind fun t403 => (impl_fold.l0 k t403 (t403.length : Int) 0)) = some r := h
 clear h
 replace H := Option.bind_eq_some_iff.mp H
 obtain ⟨t403, A20, H⟩ := H
 replace H : (impl_fold.l0 k t403 (t403.length : Int) 0) = some r := H
 have A2 := zK A20
 clear A20
 have H' := zK H
 clear H
 go_enter Try.func94, Try.ntmps94
 go_wp2_with (first | ((with_reducible refine gate_callee (f := 58) rfl ?_); refine goesL_ (some 11) rfl rfl Try.func58 yi rfl #[.slice A0 l0.length c0] rfl yb ?_; (with_reducible refine (impl_Node_58.calls _ _ l0 t403 _ ?side1 ?side2 A2.out).mono ?_); (case side1 => exact xxc); (case side2 => exact HC0.out); rintro e w3 ⟨v404, rfl, ho0, hb⟩; refine ⟨_, rfl, ?_⟩; have n0_ := zK (Kd.R_lower ho0 (zN ya)); have n1_ := zK (zL ya hb); clear HB; have HO405 := n0_; have HB := n1_; clear n0_ n1_; (try clear hb); (try clear hb2); (try clear hk); (try clear hi); (try clear ho0); obtain ⟨Ao4, co4, eo4⟩ := Kd.R_slice HO405.out; subst eo4))
 go_loopg [14] k (fun kq v14 w' => ∃ (x3_1 : List (S47)) (x14_1 : Int), v14 = .int .i64 x14_1 ∧ Aside0 (impl_fold.l0 kq x3_1 (t403.length : Int) x14_1 = some r) ∧ Aside0 (kq ≤ k) ∧ Aside0 (Kd.R k47 47 w' w.heap.size (fun _ => True) (.slice Ao4 t403.length co4) x3_1) ∧ Aside0 (Below w.heap.size w w'))
 case atStart => exact ⟨(t403), (0), ye, H', ⟨Nat.le_refl _⟩, ⟨yR HO405.out⟩, ⟨ya⟩⟩
 case round =>
  clear H'
  try clear p2
  obtain ⟨x3_1, x14_1, rfl, HA, HK1, HO_3, HB⟩ := hrel
  have hl3_1 := (Kd.R_reads' HO_3.out).1
  rw [hl3_1] at HO_3
  (try simp only [hl3_1])
  cases gk with
  | zero => exact absurd HA.out (by simp [impl_fold.l0])
  | succ k1 =>
   have H := HA.out
   clear HA
   simp only [impl_fold.l0] at H
   by_cases c5 : x14_1 < (t403.length : Int)
   ·rw [if_pos c5] at H
    have c5b0 : decide (x14_1 < (t403.length : Int)) = true := decide_eq_true c5
    clear c5
    by_cases c6 : 0 ≤ x14_1
    ·rw [if_pos c6] at H
     have c6b0 : decide (0 ≤ x14_1) = true := decide_eq_true c6
     clear c6
     by_cases c7 : x14_1 < (x3_1.length : Int)
     ·rw [if_pos c7] at H
      have c7b0 : decide (x14_1 < (x3_1.length : Int)) = true := decide_eq_true c7
      clear c7
      obtain ⟨y411, hy411⟩ : ∃ y_ : List Int, y_ = (([0, 0] : List Int)) := ⟨_, rfl⟩
      replace H : ((impl_operands.f k1 ((rd_T47 x3_1 x14_1).f0)).bind fun t414 => ((impl_Node_of.f k1 ((rd_T47 x3_1 x14_1).f0) ((rd_T47 x3_1 x14_1).f1) ((rd_T47 x3_1 x14_1).f2) ((rd_T47 x3_1 x14_1).f3)).bind fun t415 => (impl_fold.l1 k1 x3_1 x14_1 y411 (decide (t414 > 0)) (t403.length : Int) x14_1 t415 (t415.length : Int) 0 ((rd_T47 x3_1 x14_1).f0) ((rd_T47 x3_1 x14_1).f1) ((rd_T47 x3_1 x14_1).f2) ((rd_T47 x3_1 x14_1).f3)))) = some r := by have hy_ := hy411; exact xH
      have Ny411 := zK hy411
      clear hy411
      replace H := Option.bind_eq_some_iff.mp H
      obtain ⟨t414, A80, H⟩ := H
      replace H : ((impl_Node_of.f k1 ((rd_T47 x3_1 x14_1).f0) ((rd_T47 x3_1 x14_1).f1) ((rd_T47 x3_1 x14_1).f2) ((rd_T47 x3_1 x14_1).f3)).bind fun t415 => (impl_fold.l1 k1 x3_1 x14_1 y411 (decide (t414 > 0)) (t403.length : Int) x14_1 t415 (t415.length : Int) 0 ((rd_T47 x3_1 x14_1).f0) ((rd_T47 x3_1 x14_1).f1) ((rd_T47 x3_1 x14_1).f2) ((rd_T47 x3_1 x14_1).f3))) = some r := H
      have A8 := zK A80
      clear A80
      replace H := Option.bind_eq_some_iff.mp H
      obtain ⟨t415, A90, H⟩ := H
      replace H : (impl_fold.l1 k1 x3_1 x14_1 y411 (decide (t414 > 0)) (t403.length : Int) x14_1 t415 (t415.length : Int) 0 ((rd_T47 x3_1 x14_1).f0) ((rd_T47 x3_1 x14_1).f1) ((rd_T47 x3_1 x14_1).f2) ((rd_T47 x3_1 x14_1).f3)) = some r := H
      have A9 := zK A90
      clear A90
      have H' := zK H
      clear H
      have p409 : 0 ≤ (x14_1 : Int) := zo
      have q409 : x14_1 < (x3_1.length : Int) := zo
      obtain ⟨ad409, e409, hx409_0, hx409_1, hx409_2, hx409_3⟩ := at_T47 (Kd.R_reads' HO_3.out).2.2 x14_1 p409 q409
      cases e409
      replace p409 := eq_true p409
      replace q409 := eq_true q409
      go_wp2_with (first | ((with_reducible refine gate_dst (N := 5) rfl ?_); refine box_event ?hg (N := 5) ?hd (cs := #[.string (⟨#[]⟩ : ByteArray), .int .i64 0, .int .i64 0, .int .i64 0]) (t := 47) ?hr ?_; (case hd | hg => rfl); (case hr => exact xxa); intro gb410 hg w10 hbox hb; have n0_ := zK (Kd.R_below (Kd.R_elderB yn gb410 (Nat.le_of_eq hg.symm)) hb); have n1_ := zK (zL ya hb); have n2_ := zK (hbox); have n3_ := zK ((by rw [hg]; exact (zN ya) : w.heap.size ≤ gb410)); have n4_ := n3_; clear HO_3; clear HB; have HO_3 := n0_; have HB := n1_; have BK410 := n2_; have GW410 := n3_; have GE410 := n4_; clear n0_ n1_ n2_ n3_ n4_; clear hb hbox hg; have hcz11_0 : w10.cell? ⟨gb410, 0, none⟩ = some (.string (⟨#[]⟩ : ByteArray)) := (zI BK410.out 0).trans rfl; have hcz11_1 : w10.cell? ⟨gb410, 1, none⟩ = some (.int .i64 0) := (zI BK410.out 1).trans rfl; have hcz11_2 : w10.cell? ⟨gb410, 2, none⟩ = some (.int .i64 0) := (zI BK410.out 2).trans rfl; have hcz11_3 : w10.cell? ⟨gb410, 3, none⟩ = some (.int .i64 0) := (zI BK410.out 3).trans rfl; have hfz11_0 := zH BK410.out 0; have hfz11_1 := zH BK410.out 1; have hfz11_2 := zH BK410.out 2; have hfz11_3 := zH BK410.out 3) | ((with_reducible refine gate_dst (N := 19) rfl ?_); refine Kd.R_lit (Kd.int .i64) _ 3 ?hg (N := 19) ?hd (xs := ([0, 0] : List Int)) (inner := [.int .i64 0, .int .i64 0]) (ok := fun _ => True) (okp := fun _ => True) ?hr ?hp (fun _ hk => hk) trivial (Below.refl _ _) (Nat.le_refl _) ye1 ?_; (case hd | hg => rfl); (case hr => exact xxa); (case hp => exact (Reps.one (show Kd.M (Kd.int .i64) _ _ _ 0 [.int .i64 0] from rfl) (Reps.one (show Kd.M (Kd.int .i64) _ _ _ 0 [.int .i64 0] from rfl) (Reps.none _ _)))); intro v412 w12 ho13 hb hg_ hnew_; clear hg_ hnew_; (first | rw [← Ny411.out] at ho13 | (simp only [Int.reduceToNat] at ho13; rw [← Ny411.out] at ho13)); have n0_ := zK (Kd.R_below (by (with_reducible repeat (first | apply Kd.R_alloc | apply Kd.R_drewN | apply Kd.R_drew)); exact (Kd.R_mono (Kd.R_far (p := ⟨gb410, 3, none⟩) (Kd.R_far (p := ⟨gb410, 2, none⟩) (Kd.R_far (p := ⟨gb410, 1, none⟩) (Kd.R_far (p := ⟨gb410, 0, none⟩) (Kd.R_mono HO_3.out (fun k_ hk => (⟨hk, hk.2⟩ : _ ∧ k_ ≠ gb410))) (fun _ hk => hk.2) (.string ((rd_T47 x3_1 x14_1).f0))) (fun _ hk => hk.2) (.int .i64 ((rd_T47 x3_1 x14_1).f1))) (fun _ hk => hk.2) (.int .i64 ((rd_T47 x3_1 x14_1).f2))) (fun _ hk => hk.2) (.int .i64 ((rd_T47 x3_1 x14_1).f3))) (fun _ h_ => h_.1))) hb); have n1_ := zK (Kd.R_lower ho13 (zN yt1)); have n2_ := zK (zM (g := gb410) (o := .cells #[.string ((rd_T47 x3_1 x14_1).f0), .int .i64 ((rd_T47 x3_1 x14_1).f1), .int .i64 ((rd_T47 x3_1 x14_1).f2), .int .i64 ((rd_T47 x3_1 x14_1).f3)] 47 (0, 0)) (by (with_reducible repeat (first | refine zE ?_ _ | refine zF ?_ | refine zG ?_ _)); refine blk_put (cs := #[.string ((rd_T47 x3_1 x14_1).f0), .int .i64 ((rd_T47 x3_1 x14_1).f1), .int .i64 ((rd_T47 x3_1 x14_1).f2), .int .i64 0]) ?_ 3 _ rfl; (with_reducible repeat (first | refine zE ?_ _ | refine zF ?_ | refine zG ?_ _)); refine blk_put (cs := #[.string ((rd_T47 x3_1 x14_1).f0), .int .i64 ((rd_T47 x3_1 x14_1).f1), .int .i64 0, .int .i64 0]) ?_ 2 _ rfl; (with_reducible repeat (first | refine zE ?_ _ | refine zF ?_ | refine zG ?_ _)); refine blk_put (cs := #[.string ((rd_T47 x3_1 x14_1).f0), .int .i64 0, .int .i64 0, .int .i64 0]) ?_ 1 _ rfl; (with_reducible repeat (first | refine zE ?_ _ | refine zF ?_ | refine zG ?_ _)); refine blk_put (cs := #[.string (⟨#[]⟩ : ByteArray), .int .i64 0, .int .i64 0, .int .i64 0]) ?_ 0 _ rfl; (with_reducible repeat (first | refine zE ?_ _ | refine zF ?_ | refine zG ?_ _)); exact BK410.out) hb); have n3_ := zK (zL yt1 hb); clear HO_3; clear BK410; clear HB; have HO_3 := n0_; have HO413 := n1_; have BK410 := n2_; have HB := n3_; clear n0_ n1_ n2_ n3_; clear hb ho13; have hcz14_0 : w12.cell? ⟨gb410, 0, none⟩ = some (.string ((rd_T47 x3_1 x14_1).f0)) := (zI BK410.out 0).trans rfl; have hcz14_1 : w12.cell? ⟨gb410, 1, none⟩ = some (.int .i64 ((rd_T47 x3_1 x14_1).f1)) := (zI BK410.out 1).trans rfl; have hcz14_2 : w12.cell? ⟨gb410, 2, none⟩ = some (.int .i64 ((rd_T47 x3_1 x14_1).f2)) := (zI BK410.out 2).trans rfl; have hcz14_3 : w12.cell? ⟨gb410, 3, none⟩ = some (.int .i64 ((rd_T47 x3_1 x14_1).f3)) := (zI BK410.out 3).trans rfl; have hfz14_0 := zH BK410.out 0; have hfz14_1 := zH BK410.out 1; have hfz14_2 := zH BK410.out 2; have hfz14_3 := zH BK410.out 3) | ((with_reducible refine gate_callee (f := 83) rfl ?_); refine goesL_ (some 22) rfl rfl Try.func83 yi rfl #[.string ((rd_T47 x3_1 x14_1).f0)] rfl yb ?_; (with_reducible refine (impl_operands.calls k1 ((rd_T47 x3_1 x14_1).f0) t414 _ A8.out).mono ?_); rintro e w15 ⟨rfl, hb⟩; refine ⟨_, rfl, ?_⟩; have n0_ := zK (Kd.R_below yn hb); have n1_ := zK (Kd.R_below (yR HO413.out) hb); have n2_ := zK (zM (g := gb410) (o := .cells #[.string ((rd_T47 x3_1 x14_1).f0), .int .i64 ((rd_T47 x3_1 x14_1).f1), .int .i64 ((rd_T47 x3_1 x14_1).f2), .int .i64 ((rd_T47 x3_1 x14_1).f3)] 47 (0, 0)) (yS BK410.out) hb); have n3_ := zK (zL yt1 hb); clear HO_3; clear HO413; clear BK410; clear HB; have HO_3 := n0_; have HO413 := n1_; have BK410 := n2_; have HB := n3_; clear n0_ n1_ n2_ n3_; (try clear hb); (try clear hb2); (try clear hk); (try clear hi); have hcz16_0 : w15.cell? ⟨gb410, 0, none⟩ = some (.string ((rd_T47 x3_1 x14_1).f0)) := (zI BK410.out 0).trans rfl; have hcz16_1 : w15.cell? ⟨gb410, 1, none⟩ = some (.int .i64 ((rd_T47 x3_1 x14_1).f1)) := (zI BK410.out 1).trans rfl; have hcz16_2 : w15.cell? ⟨gb410, 2, none⟩ = some (.int .i64 ((rd_T47 x3_1 x14_1).f2)) := (zI BK410.out 2).trans rfl; have hcz16_3 : w15.cell? ⟨gb410, 3, none⟩ = some (.int .i64 ((rd_T47 x3_1 x14_1).f3)) := (zI BK410.out 3).trans rfl; have hfz16_0 := zH BK410.out 0; have hfz16_1 := zH BK410.out 1; have hfz16_2 := zH BK410.out 2; have hfz16_3 := zH BK410.out 3) | ((with_reducible refine gate_callee (f := 100) rfl ?_); refine goesL_ (some 25) rfl rfl Try.func100 yi rfl #[.agg #[.string ((rd_T47 x3_1 x14_1).f0), .int .i64 ((rd_T47 x3_1 x14_1).f1), .int .i64 ((rd_T47 x3_1 x14_1).f2), .int .i64 ((rd_T47 x3_1 x14_1).f3)]] rfl yb ?_; (with_reducible refine (impl_Node_of.calls k1 ((rd_T47 x3_1 x14_1).f0) ((rd_T47 x3_1 x14_1).f1) ((rd_T47 x3_1 x14_1).f2) ((rd_T47 x3_1 x14_1).f3) t415 _ A9.out).mono ?_); rintro e w17 ⟨v416, rfl, ho0, hb⟩; refine ⟨_, rfl, ?_⟩; have n0_ := zK (Kd.R_below yn hb); have n1_ := zK (Kd.R_elder' (yR HO413.out) (Kd.R_base ho0) hb); have n2_ := zK (Kd.R_lower (Kd.R_new' ho0 (Kd.R_lt (yR HO413.out))) (zN yt1)); have n3_ := zK (zM (g := gb410) (o := .cells #[.string ((rd_T47 x3_1 x14_1).f0), .int .i64 ((rd_T47 x3_1 x14_1).f1), .int .i64 ((rd_T47 x3_1 x14_1).f2), .int .i64 ((rd_T47 x3_1 x14_1).f3)] 47 (0, 0)) (yS BK410.out) hb); have n4_ := zK (zL yt1 hb); clear HO_3; clear HO413; clear BK410; clear HB; have HO_3 := n0_; have HO413 := n1_; have HO417 := n2_; have BK410 := n3_; have HB := n4_; clear n0_ n1_ n2_ n3_ n4_; (try clear hb); (try clear hb2); (try clear hk); (try clear hi); (try clear ho0); obtain ⟨Ao18, co18, eo18⟩ := Kd.R_slice HO417.out; subst eo18))
      go_loopg [7, 27] k1 (fun kq v7 v27 w' => ∃ (x6_2 : List Int) (x7_2 : Bool) (x27_2 : Int), v7 = .bool x7_2 ∧ v27 = .int .i64 x27_2 ∧ Aside0 (impl_fold.l1 kq x3_1 x14_1 x6_2 x7_2 (t403.length : Int) x14_1 t415 (t415.length : Int) x27_2 ((rd_T47 x3_1 x14_1).f0) ((rd_T47 x3_1 x14_1).f1) ((rd_T47 x3_1 x14_1).f2) ((rd_T47 x3_1 x14_1).f3) = some r) ∧ Aside0 (kq ≤ k1) ∧ Aside0 (Kd.R k47 47 w' w.heap.size (fun k_ => k_ ≠ gb410) (.slice (some ad409) x3_1.length co4) x3_1) ∧ Aside0 (Kd.R (Kd.int .i64) 3 w' w.heap.size (fun k_ => some k_ ≠ ((.slice Ao18 t415.length co18) : Value).ownBlock) v412 x6_2) ∧ Aside0 (Kd.R (Kd.int .i64) 3 w' w.heap.size (fun k_ => some k_ ≠ (v412 : Value).ownBlock) (.slice Ao18 t415.length co18) t415) ∧ Aside0 (w'.heap[gb410]? = some (.cells #[.string ((rd_T47 x3_1 x14_1).f0), .int .i64 ((rd_T47 x3_1 x14_1).f1), .int .i64 ((rd_T47 x3_1 x14_1).f2), .int .i64 ((rd_T47 x3_1 x14_1).f3)] 47 (0, 0))) ∧ Aside0 (Below w.heap.size w w'))
      case atStart => exact ⟨(y411), (decide (t414 > 0)), (0), ye, ye, H', ⟨Nat.le_refl _⟩, ⟨by (try simp only [hl3_1]); (with_reducible repeat (first | apply Kd.R_alloc | apply Kd.R_drewN | apply Kd.R_drew)); exact Kd.R_mono HO_3.out (fun _ hk => hk.2)⟩, ⟨by (try simp only [hl3_1]); (with_reducible repeat (first | apply Kd.R_alloc | apply Kd.R_drewN | apply Kd.R_drew)); exact Kd.R_mono HO413.out (fun _ hk => hk.2)⟩, ⟨by (try simp only [hl3_1]); (with_reducible repeat (first | apply Kd.R_alloc | apply Kd.R_drewN | apply Kd.R_drew)); exact Kd.R_mono HO417.out (fun _ hk => hk.2)⟩, ⟨by (try simp only [hl3_1]); (with_reducible repeat (first | refine zE ?_ _ | refine zF ?_ | refine zG ?_ _)); exact BK410.out⟩, ⟨yt1⟩⟩
      case round =>
       clear H'
       try clear c1
       try clear p2
       try clear p4
       try clear q4
       try clear hx4
       try clear c5
       try clear c5b0
       try clear c6
       try clear c6b0
       try clear c7
       try clear c7b0
       try clear c8
       try clear c9
       try clear c10
       try clear hcz11_0
       try clear hcz11_1
       try clear hcz11_2
       try clear hcz11_3
       try clear hcz14_0
       try clear hcz14_1
       try clear hcz14_2
       try clear hcz14_3
       try clear hcz16_0
       try clear hcz16_1
       try clear hcz16_2
       try clear hcz16_3
       try clear hfz11_0
       try clear hfz11_1
       try clear hfz11_2
       try clear hfz11_3
       try clear hfz14_0
       try clear hfz14_1
       try clear hfz14_2
       try clear hfz14_3
       try clear hfz16_0
       try clear hfz16_1
       try clear hfz16_2
       try clear hfz16_3
       try clear hx409_0
       try clear hx409_1
       try clear hx409_2
       try clear hx409_3
       try clear p2
       try clear p409
       try clear q409
       obtain ⟨x6_2, x7_2, x27_2, rfl, rfl, HA, HK2, HO_3, HO_6, HO_25, BK410, HB⟩ := hrel
       cases gk with
       | zero => exact absurd HA.out (by simp [impl_fold.l1])
       | succ k2 =>
        have H := HA.out
        clear HA
        simp only [impl_fold.l1] at H
        by_cases c19 : x27_2 < (t415.length : Int)
        ·rw [if_pos c19] at H
         have c19b0 : decide (x27_2 < (t415.length : Int)) = true := decide_eq_true c19
         clear c19
         by_cases c20 : 0 ≤ x27_2
         ·rw [if_pos c20] at H
          have c20b0 : decide (0 ≤ x27_2) = true := decide_eq_true c20
          clear c20
          by_cases c21 : x27_2 < (t415.length : Int)
          ·rw [if_pos c21] at H
           have c21b0 : decide (x27_2 < (t415.length : Int)) = true := decide_eq_true c21
           clear c21
           by_cases c22 : 0 ≤ (rd t415 x27_2)
           ·rw [if_pos c22] at H
            have c22b0 : decide (0 ≤ (rd t415 x27_2)) = true := decide_eq_true c22
            clear c22
            by_cases c23 : (rd t415 x27_2) < (x3_1.length : Int)
            ·rw [if_pos c23] at H
             have c23b0 : decide ((rd t415 x27_2) < (x3_1.length : Int)) = true := decide_eq_true c23
             clear c23
             by_cases c24 : x7_2 = true
             ·subst c24
              rw [if_pos rfl] at H
              by_cases c25 : x27_2 < (x6_2.length : Int)
              ·rw [if_pos c25] at H
               have c25b0 : decide (x27_2 < (x6_2.length : Int)) = true := decide_eq_true c25
               clear c25
               obtain ⟨y421, hy421⟩ : ∃ y_ : List Int, y_ = (x6_2.set (x27_2 : Int).toNat ((rd_T47 x3_1 (rd t415 x27_2)).f3)) := ⟨_, rfl⟩
               replace H : (impl_fold.l1 k2 x3_1 x14_1 y421 (((rd_T47 x3_1 (rd t415 x27_2)).f0).toList == ([99, 111, 110, 115, 116] : List UInt8)) (t403.length : Int) x14_1 t415 (t415.length : Int) (wrap64 (x27_2 + 1)) ((rd_T47 x3_1 x14_1).f0) ((rd_T47 x3_1 x14_1).f1) ((rd_T47 x3_1 x14_1).f2) ((rd_T47 x3_1 x14_1).f3)) = some r := by have hy_ := hy421; exact xH
               have Ny421 := zK hy421
               clear hy421
               have H' := zK H
               clear H
               have p418 : 0 ≤ (x27_2 : Int) := zo
               have q418 : x27_2 < (t415.length : Int) := zo
               obtain ⟨ad418, e418, hx418_0⟩ := Kd.at_int (Kd.R_reads' HO_25.out).2.2 x27_2 p418 q418
               cases e418
               replace p418 := eq_true p418
               replace q418 := eq_true q418
               try go_wp2
               have n0_ := zK (Kd.R_drew HO_3.out)
               have n1_ := zK (Kd.R_drew HO_6.out)
               have n2_ := zK (Kd.R_drew HO_25.out)
               have n3_ := zK (zF BK410.out)
               have n4_ := zK (zC HB.out)
               clear HO_3
               clear HO_6
               clear HO_25
               clear BK410
               clear HB
               have HO_3 := n0_
               have HO_6 := n1_
               have HO_25 := n2_
               have BK410 := n3_
               have HB := n4_
               clear n0_ n1_ n2_ n3_ n4_
               have p419 : 0 ≤ ((rd t415 x27_2) : Int) := zo
               have q419 : (rd t415 x27_2) < (x3_1.length : Int) := zo
               obtain ⟨ad419, e419, hx419_0, hx419_1, hx419_2, hx419_3⟩ := at_T47 (Kd.R_reads' HO_3.out).2.2 (rd t415 x27_2) p419 q419
               obtain rfl : ad409 = ad419 := (by injection e419)
               replace p419 := eq_true p419
               replace q419 := eq_true q419
               have p420 : 0 ≤ ((rd t415 x27_2) : Int) := zo
               have q420 : (rd t415 x27_2) < (x3_1.length : Int) := zo
               obtain ⟨ad420, e420, hx420_0, hx420_1, hx420_2, hx420_3⟩ := at_T47 (Kd.R_reads' HO_3.out).2.2 (rd t415 x27_2) p420 q420
               obtain rfl : ad409 = ad420 := (by injection e420)
               replace p420 := eq_true p420
               replace q420 := eq_true q420
               have p26 : 0 ≤ (x27_2 : Int) := zo
               have q26 : (x27_2 : Int) < ((x6_2.length : Int) : Int) := zo
               obtain ⟨go26, co26, eo26, gb26, gl26, cl26, HG26⟩ := Kd.R_form HO_6.out (by omega)
               (first | cases eo26 | (injection eo26 with ea_ en_ ec_; (first | subst ea_ | (injection ea_ with ea_; subst ea_)); subst ec_; clear en_))
               have GB26 := zK gb26
               have GG26 := zK HG26
               clear gb26 gl26 HG26
               obtain ⟨hx26_0, hf26_0⟩ := Kd.R_celln 0 HO_6.out (x27_2 : Int) p26 q26
               replace p26 := eq_true p26
               replace q26 := eq_true q26
               have HP28 := Kd.R_putn HO_6.out (x27_2 : Int) ((rd_T47 x3_1 (rd t415 x27_2)).f3)
               rw [← Ny421.out] at HP28
               have HQ28 := zK HP28
               clear HP28
               refine start_ (n := 19) (S := fun w' => w'.cell? (ad409.add (((rd t415 x27_2)).toNat * 4)) = some (.string ((rd_T47 x3_1 (rd t415 x27_2)).f0)) ∧ w'.cell? ⟨(ad409.add (((rd t415 x27_2)).toNat * 4)).block, (ad409.add (((rd t415 x27_2)).toNat * 4)).off + 1, none⟩ = some (.int .i64 ((rd_T47 x3_1 (rd t415 x27_2)).f1)) ∧ w'.cell? ⟨(ad409.add (((rd t415 x27_2)).toNat * 4)).block, (ad409.add (((rd t415 x27_2)).toNat * 4)).off + 2, none⟩ = some (.int .i64 ((rd_T47 x3_1 (rd t415 x27_2)).f2)) ∧ w'.cell? ⟨(ad409.add (((rd t415 x27_2)).toNat * 4)).block, (ad409.add (((rd t415 x27_2)).toNat * 4)).off + 3, none⟩ = some (.int .i64 ((rd_T47 x3_1 (rd t415 x27_2)).f3)) ∧ w'.cell? (ad409.add (((rd t415 x27_2)).toNat * 4)) = some (.string ((rd_T47 x3_1 (rd t415 x27_2)).f0)) ∧ w'.cell? ⟨(ad409.add (((rd t415 x27_2)).toNat * 4)).block, (ad409.add (((rd t415 x27_2)).toNat * 4)).off + 1, none⟩ = some (.int .i64 ((rd_T47 x3_1 (rd t415 x27_2)).f1)) ∧ w'.cell? ⟨(ad409.add (((rd t415 x27_2)).toNat * 4)).block, (ad409.add (((rd t415 x27_2)).toNat * 4)).off + 2, none⟩ = some (.int .i64 ((rd_T47 x3_1 (rd t415 x27_2)).f2)) ∧ w'.cell? ⟨(ad409.add (((rd t415 x27_2)).toNat * 4)).block, (ad409.add (((rd t415 x27_2)).toNat * 4)).off + 3, none⟩ = some (.int .i64 ((rd_T47 x3_1 (rd t415 x27_2)).f3))) (ds := [17]) #[false, false, false, false, false, false, false, false, false, false, false, false, false, false, false, false, false, false, false] yi rfl rfl ⟨hx419_0, hx419_1, hx419_2, hx419_3, hx420_0, hx420_1, hx420_2, hx420_3⟩ (fun hHeld => ?_); refine with_tabW impl_fold.tab9 impl_fold.bits9 (fun HT_ HW_ => ?_)
               generalize wr.drew = w27 at HO_3 HO_6 HO_25 BK410 HB GG26 HQ28 hf26_0 hx26_0 hx419_0 hx419_1 hx419_2 hx419_3 hx420_0 hx420_1 hx420_2 hx420_3 hHeld ⊢
               refine pure_ (i := 0) (N := some 32) (v := ?_) (a' := ?_) #[true, false, false, false, false, false, false, false, false, false, false, false, false, false, false, false, false, false, false] rfl rfl (any_of HT_.out yi) (fun _ _ _ h => h) (Or.inl ⟨by rfl, ?_⟩) ?_ ?_
               rotate_left
               ·intro w'
                go_simp
                with_reducible rfl
               rotate_left
               ·simp only [Act.put, z1, z2, z3, i64_w, i32_w]
                rfl
               refine pure_ (i := 1) (N := some 33) (v := ?_) (a' := ?_) #[true, true, false, false, false, false, false, false, false, false, false, false, false, false, false, false, false, false, false] rfl rfl (any_of HT_.out yi) (fun _ _ _ h => h) (Or.inl ⟨by rfl, ?_⟩) ?_ ?_
               rotate_left
               ·intro w'
                go_simp
                with_reducible rfl
               rotate_left
               ·simp only [Act.put, z1, z2, z3, i64_w, i32_w]
                rfl
               refine pure_ (i := 2) (N := some 34) (v := ?_) (a' := ?_) #[true, true, true, false, false, false, false, false, false, false, false, false, false, false, false, false, false, false, false] rfl rfl (any_of HT_.out yi) (fun _ _ _ h => h) (Or.inl ⟨by rfl, ?_⟩) ?_ ?_
               rotate_left
               ·intro w'
                go_simp
                with_reducible rfl
               rotate_left
               ·simp only [Act.put, z1, z2, z3, i64_w, i32_w]
                rfl
               refine pure_ (i := 3) (N := some 35) (v := ?_) (a' := ?_) #[true, true, true, true, false, false, false, false, false, false, false, false, false, false, false, false, false, false, false] rfl rfl (any_of HT_.out yi) (fun _ _ _ h => h) (Or.inl ⟨by rfl, ?_⟩) ?_ ?_
               rotate_left
               ·intro w'
                go_simp
                with_reducible rfl
               rotate_left
               ·simp only [Act.put, z1, z2, z3, i64_w, i32_w]
                rfl
               refine pure_ (i := 4) (N := some 36) (v := ?_) (a' := ?_) #[true, true, true, true, true, false, false, false, false, false, false, false, false, false, false, false, false, false, false] rfl rfl (any_of HT_.out yi) (fun _ _ _ h => h) (Or.inl ⟨by rfl, ?_⟩) ?_ ?_
               rotate_left
               ·intro w'
                go_simp
                with_reducible rfl
               rotate_left
               ·simp only [Act.put, z1, z2, z3, i64_w, i32_w]
                rfl
               refine pure_ (i := 5) (N := some 37) (v := ?_) (a' := ?_) #[true, true, true, true, true, true, false, false, false, false, false, false, false, false, false, false, false, false, false] rfl rfl (any_of HT_.out yi) (fun _ _ _ h => h) (Or.inl ⟨by rfl, ?_⟩) ?_ ?_
               rotate_left
               ·intro w'
                go_simp
                with_reducible rfl
               rotate_left
               ·simp only [Act.put, z1, z2, z3, i64_w, i32_w]
                rfl
               refine pure_ (i := 7) (N := some 39) (v := ?_) (a' := ?_) #[true, true, true, true, true, true, false, true, false, false, false, false, false, false, false, false, false, false, false] rfl rfl (any_of HT_.out yi) (fun _ _ _ h => h) (Or.inl ⟨by rfl, ?_⟩) ?_ ?_
               rotate_left
               ·intro w'
                go_simp
                with_reducible rfl
               rotate_left
               ·simp only [Act.put, z1, z2, z3, i64_w, i32_w]
                rfl
               refine pure_ (i := 8) (N := some 40) (v := ?_) (a' := ?_) #[true, true, true, true, true, true, false, true, true, false, false, false, false, false, false, false, false, false, false] rfl rfl (any_of HT_.out yi) (fun _ _ _ h => h) (Or.inl ⟨by rfl, ?_⟩) ?_ ?_
               rotate_left
               ·intro w'
                go_simp
                with_reducible rfl
               rotate_left
               ·simp only [Act.put, z1, z2, z3, i64_w, i32_w]
                rfl
               refine pure_ (i := 9) (N := some 41) (v := ?_) (a' := ?_) #[true, true, true, true, true, true, false, true, true, true, false, false, false, false, false, false, false, false, false] rfl rfl (any_of HT_.out yi) (fun _ _ _ h => h) (Or.inl ⟨by rfl, ?_⟩) ?_ ?_
               rotate_left
               ·intro w'
                go_simp
                with_reducible rfl
               rotate_left
               ·simp only [Act.put, z1, z2, z3, i64_w, i32_w]
                rfl
               refine pure_ (i := 10) (N := some 42) (v := ?_) (a' := ?_) #[true, true, true, true, true, true, false, true, true, true, true, false, false, false, false, false, false, false, false] rfl rfl (any_of HT_.out yi) (fun _ _ _ h => h) (Or.inl ⟨by rfl, ?_⟩) ?_ ?_
               rotate_left
               ·intro w'
                go_simp
                with_reducible rfl
               rotate_left
               ·simp only [Act.put, z1, z2, z3, i64_w, i32_w]
                rfl
               refine pure_ (i := 11) (N := some 43) (v := ?_) (a' := ?_) #[true, true, true, true, true, true, false, true, true, true, true, true, false, false, false, false, false, false, false] rfl rfl (any_of HT_.out yi) (fun _ _ _ h => h) (Or.inl ⟨by rfl, ?_⟩) ?_ ?_
               rotate_left
               ·intro w'
                go_simp
                with_reducible rfl
               rotate_left
               ·simp only [Act.put, z1, z2, z3, i64_w, i32_w]
                rfl
               refine pure_ (i := 12) (N := some 44) (v := ?_) (a' := ?_) #[true, true, true, true, true, true, false, true, true, true, true, true, true, false, false, false, false, false, false] rfl rfl (any_of HT_.out yi) (fun _ _ _ h => h) (Or.inl ⟨by rfl, ?_⟩) ?_ ?_
               rotate_left
               ·intro w'
                go_simp
                with_reducible rfl
               rotate_left
               ·simp only [Act.put, z1, z2, z3, i64_w, i32_w]
                rfl
               refine take_ (i := 6) (N := some 38) (v := ?_) (a' := ?_) #[true, true, true, true, true, true, true, true, true, true, true, true, true, false, false, false, false, false, false] rfl rfl (take_ofW HT_.out HW_.out yi) (fun _ _ _ h => h) (Or.inl ⟨by rfl, ?_⟩) hHeld ?_ ?_
               rotate_left
               ·rintro w' ⟨s0, s1, s2, s3, s4, s5, s6, s7⟩
                go_simp
                with_reducible rfl
               rotate_left
               ·simp only [Act.put, z1, z2, z3, i64_w, i32_w]
                rfl
               refine take_ (i := 13) (N := some 45) (v := ?_) (a' := ?_) #[true, true, true, true, true, true, true, true, true, true, true, true, true, true, false, false, false, false, false] rfl rfl (take_ofW HT_.out HW_.out yi) (fun _ _ _ h => h) (Or.inl ⟨by rfl, ?_⟩) hHeld ?_ ?_
               rotate_left
               ·rintro w' ⟨s0, s1, s2, s3, s4, s5, s6, s7⟩
                go_simp
                with_reducible rfl
               rotate_left
               ·simp only [Act.put, z1, z2, z3, i64_w, i32_w]
                rfl
               refine pure_ (i := 14) (N := some 46) (v := ?_) (a' := ?_) #[true, true, true, true, true, true, true, true, true, true, true, true, true, true, true, false, false, false, false] rfl rfl (any_of HT_.out yi) (fun _ _ _ h => h) (Or.inl ⟨by rfl, ?_⟩) ?_ ?_
               rotate_left
               ·intro w'
                go_simp
                with_reducible rfl
               rotate_left
               ·simp only [Act.put, z1, z2, z3, i64_w, i32_w]
                rfl
               refine pure_ (i := 15) (N := some 47) (v := ?_) (a' := ?_) #[true, true, true, true, true, true, true, true, true, true, true, true, true, true, true, true, false, false, false] rfl rfl (any_of HT_.out yi) (fun _ _ _ h => h) (Or.inl ⟨by rfl, ?_⟩) ?_ ?_
               rotate_left
               ·intro w'
                go_simp
                with_reducible rfl
               rotate_left
               ·simp only [Act.put, z1, z2, z3, i64_w, i32_w]
                rfl
               refine pure_ (i := 16) (N := some 48) (v := ?_) (a' := ?_) #[true, true, true, true, true, true, true, true, true, true, true, true, true, true, true, true, true, false, false] rfl rfl (any_of HT_.out yi) (fun _ _ _ h => h) (Or.inl ⟨by rfl, ?_⟩) ?_ ?_
               rotate_left
               ·intro w'
                go_simp
                with_reducible rfl
               rotate_left
               ·simp only [Act.put, z1, z2, z3, i64_w, i32_w]
                rfl
               refine last_ (i := 17) (N := none) #[true, true, true, true, true, true, true, true, true, true, true, true, true, true, true, true, true, true, false] rfl rfl (one_of HT_.out yi) yp1 (fun K hK => ?_)
               refine skip_ (w1 := ?_) (by rfl) rfl ?_ ?_
               rotate_left
               ·go_simp
                rfl
               refine hK.out _ _ ?_
               clear hK K
               refine pure_ (i := 18) (N := some 7) (v := ?_) (a' := ?_) #[true, true, true, true, true, true, true, true, true, true, true, true, true, true, true, true, true, true, true] rfl rfl (any_of HT_.out yi) (fun _ _ _ h => h) (Or.inl ⟨by rfl, ?_⟩) ?_ ?_
               rotate_left
               ·intro w'
                go_simp
                with_reducible rfl
               rotate_left
               ·simp only [Act.put, z1, z2, z3, i64_w, i32_w]
                rfl
               refine done_ (done_of HT_.out yi) ?_
               try go_wp2
               go_roundg k2
               case measure => have := HK1.out; have := HK2.out; omega
               case rel => exact ⟨(y421), ((((rd_T47 x3_1 (rd t415 x27_2)).f0).toList == ([99, 111, 110, 115, 116] : List UInt8))), (wrap64 (x27_2 + 1)), ye, ye, H', ⟨yx⟩, ⟨by (try simp only [hl3_1]); (with_reducible repeat (first | apply Kd.R_alloc | apply Kd.R_drewN | apply Kd.R_drew)); exact Kd.R_mono (Kd.R_far (p := ⟨go26, (x27_2 : Int).toNat, none⟩) (Kd.R_types HO_3.out GG26.out yp1) (fun _ hk => hk.2) (.int .i64 ((rd_T47 x3_1 (rd t415 x27_2)).f3))) (fun _ hk => hk.1)⟩, ⟨by (try simp only [hl3_1]); (with_reducible repeat (first | apply Kd.R_alloc | apply Kd.R_drewN | apply Kd.R_drew)); exact HQ28.out⟩, ⟨by (try simp only [hl3_1]); (with_reducible repeat (first | apply Kd.R_alloc | apply Kd.R_drewN | apply Kd.R_drew)); exact Kd.R_mono (Kd.R_far (p := ⟨go26, (x27_2 : Int).toNat, none⟩) (Kd.R_mono HO_25.out (fun k_ hk => (⟨hk, fun e_ => hk (by rw [e_]; rfl)⟩ : _ ∧ k_ ≠ go26))) (fun _ hk => hk.2) (.int .i64 ((rd_T47 x3_1 (rd t415 x27_2)).f3))) (fun _ hk => hk.1)⟩, ⟨by (try simp only [hl3_1]); (with_reducible repeat (first | refine zE ?_ _ | refine zF ?_ | refine zG ?_ _)); refine blk_far ?_ (by have h_ := Kd.R_ne HO_6.out BK410.out yp1; intro e_; exact h_ (by rw [e_]; rfl)) _; (with_reducible repeat (first | refine zE ?_ _ | refine zF ?_ | refine zG ?_ _)); exact BK410.out⟩, ⟨by repeat (first | (with_reducible first | exact HB.out | apply zA | apply zB | apply zC | refine zD ?_ GB26.out | refine zD ?_ GE410.out) | exact HB.out)⟩⟩
              ·rw [if_neg c25] at H
               exact absurd H ye1
             ·replace c24 := Bool.eq_false_iff.mpr c24
              subst c24
              rw [if_neg (show ¬ (false = true) by decide)] at H
              by_cases c29 : x27_2 < (x6_2.length : Int)
              ·rw [if_pos c29] at H
               have c29b0 : decide (x27_2 < (x6_2.length : Int)) = true := decide_eq_true c29
               clear c29
               obtain ⟨y422, hy422⟩ : ∃ y_ : List Int, y_ = (x6_2.set (x27_2 : Int).toNat ((rd_T47 x3_1 (rd t415 x27_2)).f3)) := ⟨_, rfl⟩
               replace H : (impl_fold.l1 k2 x3_1 x14_1 y422 false (t403.length : Int) x14_1 t415 (t415.length : Int) (wrap64 (x27_2 + 1)) ((rd_T47 x3_1 x14_1).f0) ((rd_T47 x3_1 x14_1).f1) ((rd_T47 x3_1 x14_1).f2) ((rd_T47 x3_1 x14_1).f3)) = some r := by have hy_ := hy422; exact xH
               have Ny422 := zK hy422
               clear hy422
               have H' := zK H
               clear H
               have p418 : 0 ≤ (x27_2 : Int) := zo
               have q418 : x27_2 < (t415.length : Int) := zo
               obtain ⟨ad418, e418, hx418_0⟩ := Kd.at_int (Kd.R_reads' HO_25.out).2.2 x27_2 p418 q418
               cases e418
               replace p418 := eq_true p418
               replace q418 := eq_true q418
               try go_wp2
               have n0_ := zK (Kd.R_drew HO_3.out)
               have n1_ := zK (Kd.R_drew HO_6.out)
               have n2_ := zK (Kd.R_drew HO_25.out)
               have n3_ := zK (zF BK410.out)
               have n4_ := zK (zC HB.out)
               clear HO_3
               clear HO_6
               clear HO_25
               clear BK410
               clear HB
               have HO_3 := n0_
               have HO_6 := n1_
               have HO_25 := n2_
               have BK410 := n3_
               have HB := n4_
               clear n0_ n1_ n2_ n3_ n4_
               have p419 : 0 ≤ ((rd t415 x27_2) : Int) := zo
               have q419 : (rd t415 x27_2) < (x3_1.length : Int) := zo
               obtain ⟨ad419, e419, hx419_0, hx419_1, hx419_2, hx419_3⟩ := at_T47 (Kd.R_reads' HO_3.out).2.2 (rd t415 x27_2) p419 q419
               obtain rfl : ad409 = ad419 := (by injection e419)
               replace p419 := eq_true p419
               replace q419 := eq_true q419
               have p30 : 0 ≤ (x27_2 : Int) := zo
               have q30 : (x27_2 : Int) < ((x6_2.length : Int) : Int) := zo
               obtain ⟨go30, co30, eo30, gb30, gl30, cl30, HG30⟩ := Kd.R_form HO_6.out (by omega)
               (first | cases eo30 | (injection eo30 with ea_ en_ ec_; (first | subst ea_ | (injection ea_ with ea_; subst ea_)); subst ec_; clear en_))
               have GB30 := zK gb30
               have GG30 := zK HG30
               clear gb30 gl30 HG30
               obtain ⟨hx30_0, hf30_0⟩ := Kd.R_celln 0 HO_6.out (x27_2 : Int) p30 q30
               replace p30 := eq_true p30
               replace q30 := eq_true q30
               have HP32 := Kd.R_putn HO_6.out (x27_2 : Int) ((rd_T47 x3_1 (rd t415 x27_2)).f3)
               rw [← Ny422.out] at HP32
               have HQ32 := zK HP32
               clear HP32
               refine start_ (n := 19) (S := fun w' => w'.cell? (ad409.add (((rd t415 x27_2)).toNat * 4)) = some (.string ((rd_T47 x3_1 (rd t415 x27_2)).f0)) ∧ w'.cell? ⟨(ad409.add (((rd t415 x27_2)).toNat * 4)).block, (ad409.add (((rd t415 x27_2)).toNat * 4)).off + 1, none⟩ = some (.int .i64 ((rd_T47 x3_1 (rd t415 x27_2)).f1)) ∧ w'.cell? ⟨(ad409.add (((rd t415 x27_2)).toNat * 4)).block, (ad409.add (((rd t415 x27_2)).toNat * 4)).off + 2, none⟩ = some (.int .i64 ((rd_T47 x3_1 (rd t415 x27_2)).f2)) ∧ w'.cell? ⟨(ad409.add (((rd t415 x27_2)).toNat * 4)).block, (ad409.add (((rd t415 x27_2)).toNat * 4)).off + 3, none⟩ = some (.int .i64 ((rd_T47 x3_1 (rd t415 x27_2)).f3))) (ds := [17]) #[false, false, false, false, false, false, false, false, false, false, false, false, false, false, false, false, false, false, false] yi rfl rfl ⟨hx419_0, hx419_1, hx419_2, hx419_3⟩ (fun hHeld => ?_); refine with_tabW impl_fold.tab9 impl_fold.bits9 (fun HT_ HW_ => ?_)
               generalize wr.drew = w31 at HO_3 HO_6 HO_25 BK410 HB GG30 HQ32 hf30_0 hx30_0 hx419_0 hx419_1 hx419_2 hx419_3 hHeld ⊢
               refine pure_ (i := 0) (N := some 32) (v := ?_) (a' := ?_) #[true, false, false, false, false, false, false, false, false, false, false, false, false, false, false, false, false, false, false] rfl rfl (any_of HT_.out yi) (fun _ _ _ h => h) (Or.inl ⟨by rfl, ?_⟩) ?_ ?_
               rotate_left
               ·intro w'
                go_simp
                with_reducible rfl
               rotate_left
               ·simp only [Act.put, z1, z2, z3, i64_w, i32_w]
                rfl
               refine pure_ (i := 1) (N := some 33) (v := ?_) (a' := ?_) #[true, true, false, false, false, false, false, false, false, false, false, false, false, false, false, false, false, false, false] rfl rfl (any_of HT_.out yi) (fun _ _ _ h => h) (Or.inl ⟨by rfl, ?_⟩) ?_ ?_
               rotate_left
               ·intro w'
                go_simp
                with_reducible rfl
               rotate_left
               ·simp only [Act.put, z1, z2, z3, i64_w, i32_w]
                rfl
               refine pure_ (i := 2) (N := some 34) (v := ?_) (a' := ?_) #[true, true, true, false, false, false, false, false, false, false, false, false, false, false, false, false, false, false, false] rfl rfl (any_of HT_.out yi) (fun _ _ _ h => h) (Or.inl ⟨by rfl, ?_⟩) ?_ ?_
               rotate_left
               ·intro w'
                go_simp
                with_reducible rfl
               rotate_left
               ·simp only [Act.put, z1, z2, z3, i64_w, i32_w]
                rfl
               refine pure_ (i := 3) (N := some 35) (v := ?_) (a' := ?_) #[true, true, true, true, false, false, false, false, false, false, false, false, false, false, false, false, false, false, false] rfl rfl (any_of HT_.out yi) (fun _ _ _ h => h) (Or.inl ⟨by rfl, ?_⟩) ?_ ?_
               rotate_left
               ·intro w'
                go_simp
                with_reducible rfl
               rotate_left
               ·simp only [Act.put, z1, z2, z3, i64_w, i32_w]
                rfl
               refine pure_ (i := 4) (N := some 36) (v := ?_) (a' := ?_) #[true, true, true, true, true, false, false, false, false, false, false, false, false, false, false, false, false, false, false] rfl rfl (any_of HT_.out yi) (fun _ _ _ h => h) (Or.inl ⟨by rfl, ?_⟩) ?_ ?_
               rotate_left
               ·intro w'
                go_simp
                with_reducible rfl
               rotate_left
               ·simp only [Act.put, z1, z2, z3, i64_w, i32_w]
                rfl
               refine pure_ (i := 5) (N := some 37) (v := ?_) (a' := ?_) #[true, true, true, true, true, true, false, false, false, false, false, false, false, false, false, false, false, false, false] rfl rfl (any_of HT_.out yi) (fun _ _ _ h => h) (Or.inl ⟨by rfl, ?_⟩) ?_ ?_
               rotate_left
               ·intro w'
                go_simp
                with_reducible rfl
               rotate_left
               ·simp only [Act.put, z1, z2, z3, i64_w, i32_w]
                rfl
               refine pure_ (i := 7) (N := some 39) (v := ?_) (a' := ?_) #[true, true, true, true, true, true, false, true, false, false, false, false, false, false, false, false, false, false, false] rfl rfl (any_of HT_.out yi) (fun _ _ _ h => h) (Or.inl ⟨by rfl, ?_⟩) ?_ ?_
               rotate_left
               ·intro w'
                go_simp
                with_reducible rfl
               rotate_left
               ·simp only [Act.put, z1, z2, z3, i64_w, i32_w]
                rfl
               refine pure_ (i := 8) (N := some 40) (v := ?_) (a' := ?_) #[true, true, true, true, true, true, false, true, true, false, false, false, false, false, false, false, false, false, false] rfl rfl (any_of HT_.out yi) (fun _ _ _ h => h) (Or.inl ⟨by rfl, ?_⟩) ?_ ?_
               rotate_left
               ·intro w'
                go_simp
                with_reducible rfl
               rotate_left
               ·simp only [Act.put, z1, z2, z3, i64_w, i32_w]
                rfl
               refine pure_ (i := 9) (N := some 41) (v := undef) (a' := ?_) #[true, true, true, true, true, true, false, true, true, true, false, false, false, false, false, false, false, false, false] rfl rfl (any_of HT_.out yi) (fun _ _ _ h => h) (Or.inr ⟨by rfl, rfl⟩) ?_ ?_
               rotate_left
               ·simp only [Act.put, z1, z2, z3, i64_w, i32_w]
                rfl
               refine pure_ (i := 10) (N := some 42) (v := undef) (a' := ?_) #[true, true, true, true, true, true, false, true, true, true, true, false, false, false, false, false, false, false, false] rfl rfl (any_of HT_.out yi) (fun _ _ _ h => h) (Or.inr ⟨by rfl, rfl⟩) ?_ ?_
               rotate_left
               ·simp only [Act.put, z1, z2, z3, i64_w, i32_w]
                rfl
               refine pure_ (i := 11) (N := some 43) (v := undef) (a' := ?_) #[true, true, true, true, true, true, false, true, true, true, true, true, false, false, false, false, false, false, false] rfl rfl (any_of HT_.out yi) (fun _ _ _ h => h) (Or.inr ⟨by rfl, rfl⟩) ?_ ?_
               rotate_left
               ·simp only [Act.put, z1, z2, z3, i64_w, i32_w]
                rfl
               refine pure_ (i := 12) (N := some 44) (v := undef) (a' := ?_) #[true, true, true, true, true, true, false, true, true, true, true, true, true, false, false, false, false, false, false] rfl rfl (any_of HT_.out yi) (fun _ _ _ h => h) (Or.inr ⟨by rfl, rfl⟩) ?_ ?_
               rotate_left
               ·simp only [Act.put, z1, z2, z3, i64_w, i32_w]
                rfl
               refine pure_ (i := 13) (N := some 45) (v := undef) (a' := ?_) #[true, true, true, true, true, true, false, true, true, true, true, true, true, true, false, false, false, false, false] rfl rfl (any_of HT_.out yi) (fun _ _ _ h => h) (Or.inr ⟨by rfl, rfl⟩) ?_ ?_
               rotate_left
               ·simp only [Act.put, z1, z2, z3, i64_w, i32_w]
                rfl
               refine pure_ (i := 14) (N := some 46) (v := undef) (a' := ?_) #[true, true, true, true, true, true, false, true, true, true, true, true, true, true, true, false, false, false, false] rfl rfl (any_of HT_.out yi) (fun _ _ _ h => h) (Or.inr ⟨by rfl, rfl⟩) ?_ ?_
               rotate_left
               ·simp only [Act.put, z1, z2, z3, i64_w, i32_w]
                rfl
               refine pure_ (i := 15) (N := some 47) (v := ?_) (a' := ?_) #[true, true, true, true, true, true, false, true, true, true, true, true, true, true, true, true, false, false, false] rfl rfl (any_of HT_.out yi) (fun _ _ _ h => h) (Or.inl ⟨by rfl, ?_⟩) ?_ ?_
               rotate_left
               ·intro w'
                go_simp
                with_reducible rfl
               rotate_left
               ·simp only [Act.put, z1, z2, z3, i64_w, i32_w]
                rfl
               refine take_ (i := 6) (N := some 38) (v := ?_) (a' := ?_) #[true, true, true, true, true, true, true, true, true, true, true, true, true, true, true, true, false, false, false] rfl rfl (take_ofW HT_.out HW_.out yi) (fun _ _ _ h => h) (Or.inl ⟨by rfl, ?_⟩) hHeld ?_ ?_
               rotate_left
               ·rintro w' ⟨s0, s1, s2, s3⟩
                go_simp
                with_reducible rfl
               rotate_left
               ·simp only [Act.put, z1, z2, z3, i64_w, i32_w]
                rfl
               refine pure_ (i := 16) (N := some 48) (v := ?_) (a' := ?_) #[true, true, true, true, true, true, true, true, true, true, true, true, true, true, true, true, true, false, false] rfl rfl (any_of HT_.out yi) (fun _ _ _ h => h) (Or.inl ⟨by rfl, ?_⟩) ?_ ?_
               rotate_left
               ·intro w'
                go_simp
                with_reducible rfl
               rotate_left
               ·simp only [Act.put, z1, z2, z3, i64_w, i32_w]
                rfl
               refine last_ (i := 17) (N := none) #[true, true, true, true, true, true, true, true, true, true, true, true, true, true, true, true, true, true, false] rfl rfl (one_of HT_.out yi) yp1 (fun K hK => ?_)
               refine skip_ (w1 := ?_) (by rfl) rfl ?_ ?_
               rotate_left
               ·go_simp
                rfl
               refine hK.out _ _ ?_
               clear hK K
               refine pure_ (i := 18) (N := some 7) (v := ?_) (a' := ?_) #[true, true, true, true, true, true, true, true, true, true, true, true, true, true, true, true, true, true, true] rfl rfl (any_of HT_.out yi) (fun _ _ _ h => h) (Or.inl ⟨by rfl, ?_⟩) ?_ ?_
               rotate_left
               ·intro w'
                go_simp
                with_reducible rfl
               rotate_left
               ·simp only [Act.put, z1, z2, z3, i64_w, i32_w]
                rfl
               refine done_ (done_of HT_.out yi) ?_
               try go_wp2
               go_roundg k2
               case measure => have := HK1.out; have := HK2.out; omega
               case rel => exact ⟨(y422), (false), (wrap64 (x27_2 + 1)), ye, ye, H', ⟨yx⟩, ⟨by (try simp only [hl3_1]); (with_reducible repeat (first | apply Kd.R_alloc | apply Kd.R_drewN | apply Kd.R_drew)); exact Kd.R_mono (Kd.R_far (p := ⟨go30, (x27_2 : Int).toNat, none⟩) (Kd.R_types HO_3.out GG30.out yp1) (fun _ hk => hk.2) (.int .i64 ((rd_T47 x3_1 (rd t415 x27_2)).f3))) (fun _ hk => hk.1)⟩, ⟨by (try simp only [hl3_1]); (with_reducible repeat (first | apply Kd.R_alloc | apply Kd.R_drewN | apply Kd.R_drew)); exact HQ32.out⟩, ⟨by (try simp only [hl3_1]); (with_reducible repeat (first | apply Kd.R_alloc | apply Kd.R_drewN | apply Kd.R_drew)); exact Kd.R_mono (Kd.R_far (p := ⟨go30, (x27_2 : Int).toNat, none⟩) (Kd.R_mono HO_25.out (fun k_ hk => (⟨hk, fun e_ => hk (by rw [e_]; rfl)⟩ : _ ∧ k_ ≠ go30))) (fun _ hk => hk.2) (.int .i64 ((rd_T47 x3_1 (rd t415 x27_2)).f3))) (fun _ hk => hk.1)⟩, ⟨by (try simp only [hl3_1]); (with_reducible repeat (first | refine zE ?_ _ | refine zF ?_ | refine zG ?_ _)); refine blk_far ?_ (by have h_ := Kd.R_ne HO_6.out BK410.out yp1; intro e_; exact h_ (by rw [e_]; rfl)) _; (with_reducible repeat (first | refine zE ?_ _ | refine zF ?_ | refine zG ?_ _)); exact BK410.out⟩, ⟨by repeat (first | (with_reducible first | exact HB.out | apply zA | apply zB | apply zC | refine zD ?_ GB30.out | refine zD ?_ GE410.out) | exact HB.out)⟩⟩
              ·rw [if_neg c29] at H
               exact absurd H ye1
            ·rw [if_neg c23] at H
             exact absurd H ye1
           ·rw [if_neg c22] at H
            exact absurd H ye1
          ·rw [if_neg c21] at H
           exact absurd H ye1
         ·rw [if_neg c20] at H
          exact absurd H ye1
        ·rw [if_neg c19] at H
         have c19b0 : decide (x27_2 < (t415.length : Int)) = false := decide_eq_false c19
         (try simp only [hl3_1] at c19b0)
         clear c19
         by_cases c33 : x7_2 = true
         ·subst c33
          rw [if_pos rfl] at H
          by_cases c34 : 0 < (x6_2.length : Int)
          ·rw [if_pos c34] at H
           have c34b0 : decide (0 < (x6_2.length : Int)) = true := decide_eq_true c34
           have c34b1 : decide (0 < x6_2.length) = true := decide_eq_true (by omega)
           clear c34
           by_cases c35 : 1 < (x6_2.length : Int)
           ·rw [if_pos c35] at H
            have c35b0 : decide (1 < (x6_2.length : Int)) = true := decide_eq_true c35
            have c35b1 : decide (1 < x6_2.length) = true := decide_eq_true (by omega)
            clear c35
            replace H := Option.bind_eq_some_iff.mp H
            obtain ⟨t425, A360, H⟩ := H
            replace H : (if 0 ≤ x14_1 then (if x14_1 < (x3_1.length : Int) then (impl_fold.l0 k2 (x3_1.set (x14_1 : Int).toNat (⟨(⟨#[99, 111, 110, 115, 116]⟩ : ByteArray), 0, 0, t425⟩ : S47)) (t403.length : Int) (wrap64 (x14_1 + 1))) else (none)) else (none)) = some r := H
            have A36 := zK A360
            clear A360
            by_cases c37 : 0 ≤ x14_1
            ·rw [if_pos c37] at H
             have c37b0 : decide (0 ≤ x14_1) = true := decide_eq_true c37
             clear c37
             by_cases c38 : x14_1 < (x3_1.length : Int)
             ·rw [if_pos c38] at H
              have c38b0 : decide (x14_1 < (x3_1.length : Int)) = true := decide_eq_true c38
              clear c38
              obtain ⟨y426, hy426⟩ : ∃ y_ : List (S47), y_ = (x3_1.set (x14_1 : Int).toNat (⟨(⟨#[99, 111, 110, 115, 116]⟩ : ByteArray), 0, 0, t425⟩ : S47)) := ⟨_, rfl⟩
              replace H : (impl_fold.l0 k2 y426 (t403.length : Int) (wrap64 (x14_1 + 1))) = some r := by have hy_ := hy426; exact xH
              have Ny426 := zK hy426
              clear hy426
              have H' := zK H
              clear H
              try go_wp2
              have n0_ := zK (Kd.R_drew HO_3.out)
              have n1_ := zK (Kd.R_drew HO_6.out)
              have n2_ := zK (Kd.R_drew HO_25.out)
              have n3_ := zK (zF BK410.out)
              have n4_ := zK (zC HB.out)
              clear HO_3
              clear HO_6
              clear HO_25
              clear BK410
              clear HB
              have HO_3 := n0_
              have HO_6 := n1_
              have HO_25 := n2_
              have BK410 := n3_
              have HB := n4_
              clear n0_ n1_ n2_ n3_ n4_
              obtain ⟨Ao41, co41, eo41⟩ := Kd.R_slice HO_6.out
              (first | subst eo41 | (injection eo41 with f1_ f2_ f3_; have f4_ := f1_.symm; have f5_ := f3_.symm; clear f1_ f2_ f3_; subst f4_; subst f5_))
              have p423 : 0 ≤ (0 : Int) := (by omega)
              have q423 : 0 < (x6_2.length : Int) := zo
              obtain ⟨ad423, e423, hx423_0⟩ := Kd.at_int (Kd.R_reads' HO_6.out).2.2 0 p423 q423
              cases e423
              have qi423 : (0 < x6_2.length) = True := eq_true (by omega)
              (try rw [show ((0 : Int)).toNat = 0 from rfl] at hx423_0)
              (try rw [Addr.add_zero'] at hx423_0)
              replace p423 := eq_true p423
              replace q423 := eq_true q423
              have p424 : 0 ≤ (1 : Int) := (by omega)
              have q424 : 1 < (x6_2.length : Int) := zo
              obtain ⟨ad424, e424, hx424_0⟩ := Kd.at_int (Kd.R_reads' HO_6.out).2.2 1 p424 q424
              obtain rfl : ad423 = ad424 := (by injection e424)
              (try simp only [show (1 : Int).toNat = 1 from rfl, Nat.reduceMul, Nat.reduceEqDiff, Go.Addr.add, ↓reduceIte] at hx424_0)
              have qi424 : (1 < x6_2.length) = True := eq_true (by omega)
              (try rw [show ((1 : Int)).toNat = 1 from rfl] at hx424_0)
              replace p424 := eq_true p424
              replace q424 := eq_true q424
              refine start_ (n := 14) (S := fun w' => w'.cell? ⟨gb410, 0, none⟩ = some (.string ((rd_T47 x3_1 x14_1).f0)) ∧ w'.cell? ⟨gb410, 1, none⟩ = some (.int .i64 ((rd_T47 x3_1 x14_1).f1)) ∧ w'.cell? ⟨gb410, 2, none⟩ = some (.int .i64 ((rd_T47 x3_1 x14_1).f2)) ∧ w'.cell? ⟨gb410, 3, none⟩ = some (.int .i64 ((rd_T47 x3_1 x14_1).f3)) ∧ w'.cell? ad423 = some (.int .i64 (rd x6_2 0)) ∧ w'.cell? ⟨ad423.block, ad423.off + 1, none⟩ = some (.int .i64 (rd x6_2 1))) (ds := [13]) #[false, false, false, false, false, false, false, false, false, false, false, false, false, false] yi rfl rfl ⟨(zI BK410.out 0).trans rfl, (zI BK410.out 1).trans rfl, (zI BK410.out 2).trans rfl, (zI BK410.out 3).trans rfl, hx423_0, hx424_0⟩ (fun hHeld => ?_); refine with_tabW impl_fold.tab12 impl_fold.bits12 (fun HT_ HW_ => ?_)
              generalize wr.drew = w40 at HO_3 HO_6 HO_25 BK410 HB hx423_0 hx424_0 hHeld ⊢
              refine pure_ (i := 0) (N := some 51) (v := ?_) (a' := ?_) #[true, false, false, false, false, false, false, false, false, false, false, false, false, false] rfl rfl (any_of HT_.out yi) (fun _ _ _ h => h) (Or.inl ⟨by rfl, ?_⟩) ?_ ?_
              rotate_left
              ·intro w'
               go_simp
               with_reducible rfl
              rotate_left
              ·simp only [Act.put, z1, z2, z3, i64_w, i32_w]
               rfl
              refine pure_ (i := 1) (N := some 52) (v := ?_) (a' := ?_) #[true, true, false, false, false, false, false, false, false, false, false, false, false, false] rfl rfl (any_of HT_.out yi) (fun _ _ _ h => h) (Or.inl ⟨by rfl, ?_⟩) ?_ ?_
              rotate_left
              ·intro w'
               go_simp
               with_reducible rfl
              rotate_left
              ·simp only [Act.put, z1, z2, z3, i64_w, i32_w]
               rfl
              refine pure_ (i := 2) (N := some 53) (v := ?_) (a' := ?_) #[true, true, true, false, false, false, false, false, false, false, false, false, false, false] rfl rfl (any_of HT_.out yi) (fun _ _ _ h => h) (Or.inl ⟨by rfl, ?_⟩) ?_ ?_
              rotate_left
              ·intro w'
               go_simp
               with_reducible rfl
              rotate_left
              ·simp only [Act.put, z1, z2, z3, i64_w, i32_w]
               rfl
              refine pure_ (i := 4) (N := some 55) (v := ?_) (a' := ?_) #[true, true, true, false, true, false, false, false, false, false, false, false, false, false] rfl rfl (any_of HT_.out yi) (fun _ _ _ h => h) (Or.inl ⟨by rfl, ?_⟩) ?_ ?_
              rotate_left
              ·intro w'
               go_simp
               with_reducible rfl
              rotate_left
              ·simp only [Act.put, z1, z2, z3, i64_w, i32_w]
               rfl
              refine pure_ (i := 5) (N := some 56) (v := ?_) (a' := ?_) #[true, true, true, false, true, true, false, false, false, false, false, false, false, false] rfl rfl (any_of HT_.out yi) (fun _ _ _ h => h) (Or.inl ⟨by rfl, ?_⟩) ?_ ?_
              rotate_left
              ·intro w'
               go_simp
               with_reducible rfl
              rotate_left
              ·simp only [Act.put, z1, z2, z3, i64_w, i32_w]
               rfl
              refine pure_ (i := 7) (N := some 58) (v := ?_) (a' := ?_) #[true, true, true, false, true, true, false, true, false, false, false, false, false, false] rfl rfl (any_of HT_.out yi) (fun _ _ _ h => h) (Or.inl ⟨by rfl, ?_⟩) ?_ ?_
              rotate_left
              ·intro w'
               go_simp
               with_reducible rfl
              rotate_left
              ·simp only [Act.put, z1, z2, z3, i64_w, i32_w]
               rfl
              refine pure_ (i := 8) (N := some 59) (v := ?_) (a' := ?_) #[true, true, true, false, true, true, false, true, true, false, false, false, false, false] rfl rfl (any_of HT_.out yi) (fun _ _ _ h => h) (Or.inl ⟨by rfl, ?_⟩) ?_ ?_
              rotate_left
              ·intro w'
               go_simp
               with_reducible rfl
              rotate_left
              ·simp only [Act.put, z1, z2, z3, i64_w, i32_w]
               rfl
              refine take_ (i := 3) (N := some 54) (v := ?_) (a' := ?_) #[true, true, true, true, true, true, false, true, true, false, false, false, false, false] rfl rfl (take_ofW HT_.out HW_.out yi) (fun _ _ _ h => h) (Or.inl ⟨by rfl, ?_⟩) hHeld ?_ ?_
              rotate_left
              ·rintro w' ⟨s0, s1, s2, s3, s4, s5⟩
               go_simp
               with_reducible rfl
              rotate_left
              ·simp only [Act.put, z1, z2, z3, i64_w, i32_w]
               rfl
              refine take_ (i := 6) (N := some 57) (v := ?_) (a' := ?_) #[true, true, true, true, true, true, true, true, true, false, false, false, false, false] rfl rfl (take_ofW HT_.out HW_.out yi) (fun _ _ _ h => h) (Or.inl ⟨by rfl, ?_⟩) hHeld ?_ ?_
              rotate_left
              ·rintro w' ⟨s0, s1, s2, s3, s4, s5⟩
               go_simp
               with_reducible rfl
              rotate_left
              ·simp only [Act.put, z1, z2, z3, i64_w, i32_w]
               rfl
              refine take_ (i := 9) (N := some 60) (v := ?_) (a' := ?_) #[true, true, true, true, true, true, true, true, true, true, false, false, false, false] rfl rfl (take_ofW HT_.out HW_.out yi) (fun _ _ _ h => h) (Or.inl ⟨by rfl, ?_⟩) hHeld ?_ ?_
              rotate_left
              ·rintro w' ⟨s0, s1, s2, s3, s4, s5⟩
               go_simp
               with_reducible rfl
              rotate_left
              ·simp only [Act.put, z1, z2, z3, i64_w, i32_w]
               rfl
              refine one_ (i := 10) (N := some 61) #[true, true, true, true, true, true, true, true, true, true, true, false, false, false] rfl rfl (one_of HT_.out yi) yp1 (fun K hK => ?_)
              refine goes_ Try.func85 yi rfl #[.string ((rd_T47 x3_1 x14_1).f0), .int .i64 (rd x6_2 0), .int .i64 (rd x6_2 1)] (by rfl) rfl rfl yb ?_
              with_reducible refine (impl_apply.calls ((rd_T47 x3_1 x14_1).f0) (rd x6_2 0) (rd x6_2 1) t425 _ A36.out).mono ?_
              rintro e w' ⟨rfl, ⟨nd, rfl⟩⟩
              refine ⟨_, rfl, ?_⟩
              have p39 : 0 ≤ (x14_1 : Int) := zo
              have q39 : (x14_1 : Int) < ((x3_1.length : Int) : Int) := zo
              obtain ⟨go39, co39, eo39, gb39, gl39, cl39, HG39⟩ := Kd.R_form HO_3.out (by omega)
              (first | cases eo39 | (injection eo39 with ea_ en_ ec_; (first | subst ea_ | (injection ea_ with ea_; subst ea_)); subst ec_; clear en_))
              have GB39 := zK gb39
              have GG39 := zK HG39
              clear gb39 gl39 HG39
              (first | simp only [add_plain] at hx409_0 | skip)
              (first | simp only [add_plain] at hx409_1 | skip)
              (first | simp only [add_plain] at hx409_2 | skip)
              (first | simp only [add_plain] at hx409_3 | skip)
              (first | simp only [add_plain] at hx419_0 | skip)
              (first | simp only [add_plain] at hx419_1 | skip)
              (first | simp only [add_plain] at hx419_2 | skip)
              (first | simp only [add_plain] at hx419_3 | skip)
              (first | simp only [add_plain] at hx420_0 | skip)
              (first | simp only [add_plain] at hx420_1 | skip)
              (first | simp only [add_plain] at hx420_2 | skip)
              (first | simp only [add_plain] at hx420_3 | skip)
              obtain ⟨ce39, hcl39, hM39, hcc39, hfr39⟩ := Kd.R_elem HO_3.out z47 (x14_1 : Int) p39 q39
              obtain rfl := k47_openM hM39
              have hx39_0 : World.cell? _ ⟨go39, (x14_1 : Int).toNat * 4, none⟩ = some (.string ((rd_T47 x3_1 x14_1).f0)) := hcc39 0 _ rfl
              have hx39_1 : World.cell? _ ⟨go39, (x14_1 : Int).toNat * 4 + 1, none⟩ = some (.int .i64 ((rd_T47 x3_1 x14_1).f1)) := hcc39 1 _ rfl
              have hx39_2 : World.cell? _ ⟨go39, (x14_1 : Int).toNat * 4 + 2, none⟩ = some (.int .i64 ((rd_T47 x3_1 x14_1).f2)) := hcc39 2 _ rfl
              have hx39_3 : World.cell? _ ⟨go39, (x14_1 : Int).toNat * 4 + 3, none⟩ = some (.int .i64 ((rd_T47 x3_1 x14_1).f3)) := hcc39 3 _ rfl
              have hf39_0 : World.frozen? _ ⟨go39, (x14_1 : Int).toNat * 4, none⟩ = false := hfr39 0
              have hf39_1 : World.frozen? _ ⟨go39, (x14_1 : Int).toNat * 4 + 1, none⟩ = false := hfr39 1
              have hf39_2 : World.frozen? _ ⟨go39, (x14_1 : Int).toNat * 4 + 2, none⟩ = false := hfr39 2
              have hf39_3 : World.frozen? _ ⟨go39, (x14_1 : Int).toNat * 4 + 3, none⟩ = false := hfr39 3
              clear hcl39 hcc39 hfr39 hM39
              replace p39 := eq_true p39
              replace q39 := eq_true q39
              obtain ⟨ce42, hcl42, hM42, hcc42, hfr42⟩ := Kd.R_elem HO_3.out z47 (x14_1 : Int) (zo) (by have h_ : (x14_1 : Int) < ((x3_1.length : Int) : Int) := zo; first | exact h_ | (have e_ := (Kd.R_reads' HO_3.out).1; omega) | simpa using h_)
              obtain rfl := k47_openM hM42
              have HP42 := (Kd.R_seg HO_3.out (x14_1 : Int) (zo) (by have h_ : (x14_1 : Int) < ((x3_1.length : Int) : Int) := zo; first | exact h_ | (have e_ := (Kd.R_reads' HO_3.out).1; omega) | simpa using h_) (seg := [.string (⟨#[99, 111, 110, 115, 116]⟩ : ByteArray), .int .i64 0, .int .i64 0, .int .i64 t425]) (j := 0) hcl42 hcc42 (show 4 ≤ 4 from by decide) (x' := (⟨(⟨#[99, 111, 110, 115, 116]⟩ : ByteArray), 0, 0, t425⟩ : S47)) (k47_mkM _ _ _ (⟨(⟨#[99, 111, 110, 115, 116]⟩ : ByteArray), 0, 0, t425⟩ : S47) ) (fun _ hk => hk)).1
              rw [← Ny426.out] at HP42
              have HQ42 := zK HP42
              clear hcl42 hcc42 hfr42 hM42 HP42
              refine hK.out _ _ ⟨(zI BK410.out 0).trans rfl, (zI BK410.out 1).trans rfl, (zI BK410.out 2).trans rfl, (zI BK410.out 3).trans rfl, hHeld.2.2.2.2.1, hHeld.2.2.2.2.2⟩ (fun hHeld => ?_)
              clear hK K
              refine norm_ (a' := ?_) ?_ ?_
              rotate_left
              ·show Act.put _ (some 61) _ = _
               simp only [Act.put, z1, z2, z3, i64_w, i32_w]
               rfl
              refine pure_ (i := 11) (N := some 62) (v := ?_) (a' := ?_) #[true, true, true, true, true, true, true, true, true, true, true, true, false, false] rfl rfl (any_of HT_.out yi) (fun _ _ _ h => h) (Or.inl ⟨by rfl, ?_⟩) ?_ ?_
              rotate_left
              ·intro w'
               go_simp
               with_reducible rfl
              rotate_left
              ·simp only [Act.put, z1, z2, z3, i64_w, i32_w]
               rfl
              refine pure_ (i := 12) (N := some 63) (v := ?_) (a' := ?_) #[true, true, true, true, true, true, true, true, true, true, true, true, true, false] rfl rfl (any_of HT_.out yi) (fun _ _ _ h => h) (Or.inl ⟨by rfl, ?_⟩) ?_ ?_
              rotate_left
              ·intro w'
               go_simp
               with_reducible rfl
              rotate_left
              ·simp only [Act.put, z1, z2, z3, i64_w, i32_w]
               rfl
              refine last_ (i := 13) (N := none) #[true, true, true, true, true, true, true, true, true, true, true, true, true, true] rfl rfl (one_of HT_.out yi) yp1 (fun K hK => ?_)
              refine skip_ (w1 := ?_) (by rfl) rfl ?_ ?_
              rotate_left
              ·go_simp
               rfl
              refine hK.out _ _ ?_
              clear hK K
              refine done_ (done_of HT_.out yi) ?_
              try go_wp2
              (try simp only [← hl3_1])
              go_roundg k2
              case measure => have := HK1.out; have := HK2.out; omega
              case rel => exact ⟨(y426), (wrap64 (x14_1 + 1)), ye, H', ⟨yx⟩, ⟨by (try simp only [hl3_1]); (with_reducible repeat (first | apply Kd.R_alloc | apply Kd.R_drewN | apply Kd.R_drew)); exact Kd.R_mono HQ42.out (fun _ hk => trivial)⟩, ⟨by repeat (first | (with_reducible first | exact HB.out | apply zA | apply zB | apply zC | refine zD ?_ GB39.out | refine zD ?_ GB39.out | refine zD ?_ GB39.out | refine zD ?_ GB39.out | refine zD ?_ GE410.out) | exact HB.out)⟩⟩
             ·rw [if_neg c38] at H
              exact absurd H ye1
            ·rw [if_neg c37] at H
             exact absurd H ye1
           ·rw [if_neg c35] at H
            exact absurd H ye1
          ·rw [if_neg c34] at H
           exact absurd H ye1
         ·replace c33 := Bool.eq_false_iff.mpr c33
          subst c33
          rw [if_neg (show ¬ (false = true) by decide)] at H
          have H' := zK H
          clear H
          go_wp2
          (try simp only [← hl3_1])
          go_roundg k2
          case measure => have := HK1.out; have := HK2.out; omega
          case rel => exact ⟨(x3_1), (wrap64 (x14_1 + 1)), ye, H', ⟨yx⟩, ⟨by (try simp only [hl3_1]); (with_reducible repeat (first | apply Kd.R_alloc | apply Kd.R_drewN | apply Kd.R_drew)); exact Kd.R_mono HO_3.out (fun _ hk => trivial)⟩, ⟨yt1⟩⟩
     ·rw [if_neg c7] at H
      exact absurd H ye1
    ·rw [if_neg c6] at H
     exact absurd H ye1
   ·rw [if_neg c5] at H
    have c5b0 : decide (x14_1 < (t403.length : Int)) = false := decide_eq_false c5
    (try simp only [hl3_1] at c5b0)
    clear c5
    replace H := Option.bind_eq_some_iff.mp H
    obtain ⟨t406, A430, H⟩ := H
    replace H : (some t406) = some r := H
    have A43 := zK A430
    clear A430
    obtain rfl := Option.some.inj H
    go_wp2_with (first | ((with_reducible refine gate_callee (f := 106) rfl ?_); refine goesL_ (some 69) rfl rfl Try.func106 yi rfl #[.slice Ao4 x3_1.length co4, .int .i64 (wrap64 ((x3_1.length : Int) - 1))] rfl yb ?_; (with_reducible refine (impl_kept.calls k1 _ _ x3_1 (wrap64 ((x3_1.length : Int) - 1)) t406 _ ?side1 ?side2 A43.out).mono ?_); (case side1 => repeat (first | exact (Kd.R_reads' HO_3.out).2.2 | (with_reducible refine Kd.C_alloc ?_ _) | (with_reducible refine Kd.C_drewN ?_ _) | (with_reducible refine Kd.C_drew ?_))); (case side2 => exact (Kd.R_reads' HO_3.out).2.1); rintro e w44 ⟨v407, rfl, ho0, hb⟩; refine ⟨_, rfl, ?_⟩; have n0_ := zK (Kd.R_elder' yn (Kd.R_base ho0) hb); have n1_ := zK (Kd.R_lower (Kd.R_new' ho0 (Kd.R_lt yn)) (zN ya)); have n2_ := zK (zL ya hb); clear HO_3; clear HB; have HO_3 := n0_; have HO408 := n1_; have HB := n2_; clear n0_ n1_ n2_; (try clear hb); (try clear hb2); (try clear hk); (try clear hi); (try clear ho0)))
    go_ret
    exact ⟨_, yd, by (with_reducible repeat (first | apply Kd.R_alloc | apply Kd.R_drewN | apply Kd.R_drew)); exact Kd.R_mono HO408.out (fun _ hk => trivial), ya⟩

/-! ### impl_FoldExpr: function 36 -/
def impl_FoldExpr.f (k : Nat) (l0 : List (S47)) : Option ((List (S47)) × Bool) := (impl_IsExpr.f k l0).bind fun t427 => (if t427 = true then ((impl_fold.f k l0).bind fun t428 => (some (t428, true))) else (some (([] : List (S47)), false)))
set_option maxHeartbeats 8000000 in
set_option maxRecDepth 100000 in
theorem impl_FoldExpr.calls (k : Nat) (A0 : Option Addr) (c0 : Nat) (l0 : List (S47)) (r1 : List (S47)) (r2 : Bool) (w : World) (hr0 : Kd.C k47 w A0 l0.length l0) (hc0 : l0.length ≤ c0) (h : impl_FoldExpr.f k l0 = some (r1, r2)) :
  Calls Try.prog 36 #[.slice A0 l0.length c0] w fun e w' => ∃ v0_ : Value, e = .returned (.tuple #[v0_, .bool r2]) ∧ Kd.R k47 47 w' w.heap.size (fun _ => True) v0_ r1 ∧ Below w.heap.size w w' := by
 have HR0 := zK hr0
 have HC0 := zK hc0
 clear hr0 hc0
 have HB := zK (Below.refl w.heap.size w)
 have H : ((impl_IsExpr.f k l0).bind fun t427 => (if t427 = true then ((impl_fold.f k l0).bind fun t428 => (some (t428, true))) else (some (([] : List (S47)), false)))) = some (r1, r2) := h
 clear h
 replace H := Option.bind_eq_some_iff.mp H
 obtain ⟨t427, A20, H⟩ := H
 replace H : (if t427 = true then ((impl_fold.f k l0).bind fun t428 => (some (t428, true))) else (some (([] : List (S47)), false))) = some (r1, r2) := H
 have A2 := zK A20
 clear A20
 by_cases c3 : t427 = true
 ·subst c3
  rw [if_pos rfl] at H
  replace H := Option.bind_eq_some_iff.mp H
  obtain ⟨t428, A40, H⟩ := H
  replace H : (some (t428, true)) = some (r1, r2) := H
  have A4 := zK A40
  clear A40
  simp only [Option.some.injEq, Prod.mk.injEq] at H
  obtain ⟨rfl, rfl⟩ := H
  go_enter Try.func36, Try.ntmps36
  go_wp2_with (first | ((with_reducible refine gate_callee (f := 20) rfl ?_); refine goesL_ (some 5) rfl rfl Try.func20 yi rfl #[.slice A0 l0.length c0] rfl yb ?_; (with_reducible refine (impl_IsExpr.calls k _ _ l0 true _ ?side1 ?side2 A2.out).mono ?_); (case side1 => exact xxc); (case side2 => exact HC0.out); rintro e w5 ⟨rfl, hb⟩; refine ⟨_, rfl, ?_⟩; have n0_ := zK (zL ya hb); clear HB; have HB := n0_; clear n0_; (try clear hb); (try clear hb2); (try clear hk); (try clear hi)) | ((with_reducible refine gate_callee (f := 94) rfl ?_); refine goesL_ (some 8) rfl rfl Try.func94 yi rfl #[.slice A0 l0.length c0] rfl yb ?_; (with_reducible refine (impl_fold.calls k _ _ l0 t428 _ ?side1 ?side2 A4.out).mono ?_); (case side1 => exact xxd); (case side2 => exact HC0.out); rintro e w6 ⟨v429, rfl, ho0, hb⟩; refine ⟨_, rfl, ?_⟩; have n0_ := zK (Kd.R_lower ho0 (zN ya)); have n1_ := zK (zL ya hb); clear HB; have HO430 := n0_; have HB := n1_; clear n0_ n1_; (try clear hb); (try clear hb2); (try clear hk); (try clear hi); (try clear ho0)))
  go_ret2
  exact ⟨_, yd, yR HO430.out, ya⟩
 ·replace c3 := Bool.eq_false_iff.mpr c3
  subst c3
  rw [if_neg (show ¬ (false = true) by decide)] at H
  simp only [Option.some.injEq, Prod.mk.injEq] at H
  obtain ⟨rfl, rfl⟩ := H
  go_enter Try.func36, Try.ntmps36
  go_wp2_with (first | ((with_reducible refine gate_callee (f := 20) rfl ?_); refine goesL_ (some 5) rfl rfl Try.func20 yi rfl #[.slice A0 l0.length c0] rfl yb ?_; (with_reducible refine (impl_IsExpr.calls k _ _ l0 false _ ?side1 ?side2 A2.out).mono ?_); (case side1 => exact xxc); (case side2 => exact HC0.out); rintro e w7 ⟨rfl, hb⟩; refine ⟨_, rfl, ?_⟩; have n0_ := zK (zL ya hb); clear HB; have HB := n0_; clear n0_; (try clear hb); (try clear hb2); (try clear hk); (try clear hi)))
  go_ret2
  exact ⟨_, yd, yd1, ya⟩

/-! ### spec_exApply: function 87 -/
def spec_exApply.f (a0 : ByteArray) (a1 : Int) (a2 : Int) : Option (Int) := if a0.toList = ([110, 111, 116] : List UInt8) then (some (Go.bits .and .i64 (wrap64 (63 - a1)) 63)) else (if a0.toList = ([110, 101, 103] : List UInt8) then (some (Go.bits .and .i64 (wrap64 (-a1)) 63)) else (if a0.toList = ([97, 100, 100] : List UInt8) then (some (Go.bits .and .i64 (wrap64 (a1 + a2)) 63)) else (if a0.toList = ([115, 117, 98] : List UInt8) then (some (Go.bits .and .i64 (wrap64 (a1 - a2)) 63)) else (if a0.toList = ([109, 117, 108] : List UInt8) then (some (Go.bits .and .i64 (wrap64 (a1 * a2)) 63)) else (if a0.toList = ([97, 110, 100] : List UInt8) then (some (Go.bits .and .i64 (Go.bits .and .i64 a1 a2) 63)) else (if a0.toList = ([111, 114] : List UInt8) then (some (Go.bits .and .i64 (Go.bits .or .i64 a1 a2) 63)) else (if a0.toList = ([120, 111, 114] : List UInt8) then (some (Go.bits .and .i64 (Go.bits .xor .i64 a1 a2) 63)) else (if a0.toList = ([115, 104, 108] : List UInt8) then (if a2 < 6 then (if 0 ≤ a2 then (some (Go.bits .and .i64 (shl .i64 a1 a2) 63)) else (none)) else (some (Go.bits .and .i64 0 63))) else (if a0.toList = ([115, 104, 114] : List UInt8) then (if a2 < 6 then (if 0 ≤ a2 then (some (Go.bits .and .i64 (shr .i64 a1 a2) 63)) else (none)) else (some (Go.bits .and .i64 0 63))) else (if a0.toList = ([108, 101, 115, 115] : List UInt8) then (if a1 < a2 then (some (Go.bits .and .i64 1 63)) else (some (Go.bits .and .i64 0 63))) else (if a0.toList = ([101, 113] : List UInt8) then (if a1 = a2 then (some (Go.bits .and .i64 1 63)) else (some (Go.bits .and .i64 0 63))) else (some (Go.bits .and .i64 0 63)))))))))))))
set_option maxHeartbeats 8000000 in
set_option maxRecDepth 100000 in
theorem spec_exApply.calls (a0 : ByteArray) (a1 : Int) (a2 : Int) (r : Int) (w : World) (h : spec_exApply.f a0 a1 a2 = some r) :
  Calls Try.prog 87 #[.string a0, .int .i64 a1, .int .i64 a2] w fun e w' => e = .returned (.int .i64 r) ∧ Drawn0 w w' := by
 have H : (if a0.toList = ([110, 111, 116] : List UInt8) then (some (Go.bits .and .i64 (wrap64 (63 - a1)) 63)) else (if a0.toList = ([110, 101, 103] : List UInt8) then (some (Go.bits .and .i64 (wrap64 (-a1)) 63)) else (if a0.toList = ([97, 100, 100] : List UInt8) then (some (Go.bits .and .i64 (wrap64 (a1 + a2)) 63)) else (if a0.toList = ([115, 117, 98] : List UInt8) then (some (Go.bits .and .i64 (wrap64 (a1 - a2)) 63)) else (if a0.toList = ([109, 117, 108] : List UInt8) then (some (Go.bits .and .i64 (wrap64 (a1 * a2)) 63)) else (if a0.toList = ([97, 110, 100] : List UInt8) then (some (Go.bits .and .i64 (Go.bits .and .i64 a1 a2) 63)) else (if a0.toList = ([111, 114] : List UInt8) then (some (Go.bits .and .i64 (Go.bits .or .i64 a1 a2) 63)) else (if a0.toList = ([120, 111, 114] : List UInt8) then (some (Go.bits .and .i64 (Go.bits .xor .i64 a1 a2) 63)) else (if a0.toList = ([115, 104, 108] : List UInt8) then (if a2 < 6 then (if 0 ≤ a2 then (some (Go.bits .and .i64 (shl .i64 a1 a2) 63)) else (none)) else (some (Go.bits .and .i64 0 63))) else (if a0.toList = ([115, 104, 114] : List UInt8) then (if a2 < 6 then (if 0 ≤ a2 then (some (Go.bits .and .i64 (shr .i64 a1 a2) 63)) else (none)) else (some (Go.bits .and .i64 0 63))) else (if a0.toList = ([108, 101, 115, 115] : List UInt8) then (if a1 < a2 then (some (Go.bits .and .i64 1 63)) else (some (Go.bits .and .i64 0 63))) else (if a0.toList = ([101, 113] : List UInt8) then (if a1 = a2 then (some (Go.bits .and .i64 1 63)) else (some (Go.bits .and .i64 0 63))) else (some (Go.bits .and .i64 0 63)))))))))))))) = some r := h
 clear h
 by_cases c4 : a0.toList = ([110, 111, 116] : List UInt8)
 ·rw [if_pos c4] at H
  have c4b0 : (a0.toList == ([110, 111, 116] : List UInt8)) = true := beq_iff_eq.mpr c4
  have c4b1 : (a0.toList != ([110, 111, 116] : List UInt8)) = false := bne_eq_false_iff_eq.mpr c4
  clear c4
  obtain rfl := Option.some.inj H
  go_enter Try.func87, Try.ntmps87
  go_wp2
  go_ret
  exact ⟨ye, yg⟩
 ·rw [if_neg c4] at H
  have c4b0 : (a0.toList == ([110, 111, 116] : List UInt8)) = false := beq_eq_false_iff_ne.mpr c4
  have c4b1 : (a0.toList != ([110, 111, 116] : List UInt8)) = true := bne_iff_ne.mpr c4
  by_cases c5 : a0.toList = ([110, 101, 103] : List UInt8)
  ·rw [if_pos c5] at H
   have c5b0 : (a0.toList == ([110, 101, 103] : List UInt8)) = true := beq_iff_eq.mpr c5
   have c5b1 : (a0.toList != ([110, 101, 103] : List UInt8)) = false := bne_eq_false_iff_eq.mpr c5
   clear c5
   obtain rfl := Option.some.inj H
   go_enter Try.func87, Try.ntmps87
   go_wp2
   go_ret
   exact ⟨ye, yg⟩
  ·rw [if_neg c5] at H
   have c5b0 : (a0.toList == ([110, 101, 103] : List UInt8)) = false := beq_eq_false_iff_ne.mpr c5
   have c5b1 : (a0.toList != ([110, 101, 103] : List UInt8)) = true := bne_iff_ne.mpr c5
   by_cases c6 : a0.toList = ([97, 100, 100] : List UInt8)
   ·rw [if_pos c6] at H
    have c6b0 : (a0.toList == ([97, 100, 100] : List UInt8)) = true := beq_iff_eq.mpr c6
    have c6b1 : (a0.toList != ([97, 100, 100] : List UInt8)) = false := bne_eq_false_iff_eq.mpr c6
    clear c6
    obtain rfl := Option.some.inj H
    go_enter Try.func87, Try.ntmps87
    go_wp2
    go_ret
    exact ⟨ye, yg⟩
   ·rw [if_neg c6] at H
    have c6b0 : (a0.toList == ([97, 100, 100] : List UInt8)) = false := beq_eq_false_iff_ne.mpr c6
    have c6b1 : (a0.toList != ([97, 100, 100] : List UInt8)) = true := bne_iff_ne.mpr c6
    by_cases c7 : a0.toList = ([115, 117, 98] : List UInt8)
    ·rw [if_pos c7] at H
     have c7b0 : (a0.toList == ([115, 117, 98] : List UInt8)) = true := beq_iff_eq.mpr c7
     have c7b1 : (a0.toList != ([115, 117, 98] : List UInt8)) = false := bne_eq_false_iff_eq.mpr c7
     clear c7
     obtain rfl := Option.some.inj H
     go_enter Try.func87, Try.ntmps87
     go_wp2
     go_ret
     exact ⟨ye, yg⟩
    ·rw [if_neg c7] at H
     have c7b0 : (a0.toList == ([115, 117, 98] : List UInt8)) = false := beq_eq_false_iff_ne.mpr c7
     have c7b1 : (a0.toList != ([115, 117, 98] : List UInt8)) = true := bne_iff_ne.mpr c7
     by_cases c8 : a0.toList = ([109, 117, 108] : List UInt8)
     ·rw [if_pos c8] at H
      have c8b0 : (a0.toList == ([109, 117, 108] : List UInt8)) = true := beq_iff_eq.mpr c8
      have c8b1 : (a0.toList != ([109, 117, 108] : List UInt8)) = false := bne_eq_false_iff_eq.mpr c8
      clear c8
      obtain rfl := Option.some.inj H
      go_enter Try.func87, Try.ntmps87
      go_wp2
      go_ret
      exact ⟨ye, yg⟩
     ·rw [if_neg c8] at H
      have c8b0 : (a0.toList == ([109, 117, 108] : List UInt8)) = false := beq_eq_false_iff_ne.mpr c8
      have c8b1 : (a0.toList != ([109, 117, 108] : List UInt8)) = true := bne_iff_ne.mpr c8
      by_cases c9 : a0.toList = ([97, 110, 100] : List UInt8)
      ·rw [if_pos c9] at H
       have c9b0 : (a0.toList == ([97, 110, 100] : List UInt8)) = true := beq_iff_eq.mpr c9
       have c9b1 : (a0.toList != ([97, 110, 100] : List UInt8)) = false := bne_eq_false_iff_eq.mpr c9
       clear c9
       obtain rfl := Option.some.inj H
       go_enter Try.func87, Try.ntmps87
       go_wp2
       go_ret
       exact ⟨ye, yg⟩
      ·rw [if_neg c9] at H
       have c9b0 : (a0.toList == ([97, 110, 100] : List UInt8)) = false := beq_eq_false_iff_ne.mpr c9
       have c9b1 : (a0.toList != ([97, 110, 100] : List UInt8)) = true := bne_iff_ne.mpr c9
       by_cases c10 : a0.toList = ([111, 114] : List UInt8)
       ·rw [if_pos c10] at H
        have c10b0 : (a0.toList == ([111, 114] : List UInt8)) = true := beq_iff_eq.mpr c10
        have c10b1 : (a0.toList != ([111, 114] : List UInt8)) = false := bne_eq_false_iff_eq.mpr c10
        clear c10
        obtain rfl := Option.some.inj H
        go_enter Try.func87, Try.ntmps87
        go_wp2
        go_ret
        exact ⟨ye, yg⟩
       ·rw [if_neg c10] at H
        have c10b0 : (a0.toList == ([111, 114] : List UInt8)) = false := beq_eq_false_iff_ne.mpr c10
        have c10b1 : (a0.toList != ([111, 114] : List UInt8)) = true := bne_iff_ne.mpr c10
        by_cases c11 : a0.toList = ([120, 111, 114] : List UInt8)
        ·rw [if_pos c11] at H
         have c11b0 : (a0.toList == ([120, 111, 114] : List UInt8)) = true := beq_iff_eq.mpr c11
         have c11b1 : (a0.toList != ([120, 111, 114] : List UInt8)) = false := bne_eq_false_iff_eq.mpr c11
         clear c11
         obtain rfl := Option.some.inj H
         go_enter Try.func87, Try.ntmps87
         go_wp2
         go_ret
         exact ⟨ye, yg⟩
        ·rw [if_neg c11] at H
         have c11b0 : (a0.toList == ([120, 111, 114] : List UInt8)) = false := beq_eq_false_iff_ne.mpr c11
         have c11b1 : (a0.toList != ([120, 111, 114] : List UInt8)) = true := bne_iff_ne.mpr c11
         by_cases c12 : a0.toList = ([115, 104, 108] : List UInt8)
         ·rw [if_pos c12] at H
          have c12b0 : (a0.toList == ([115, 104, 108] : List UInt8)) = true := beq_iff_eq.mpr c12
          have c12b1 : (a0.toList != ([115, 104, 108] : List UInt8)) = false := bne_eq_false_iff_eq.mpr c12
          clear c12
          by_cases c13 : a2 < 6
          ·rw [if_pos c13] at H
           have c13b0 : decide (a2 < 6) = true := decide_eq_true c13
           clear c13
           by_cases c14 : 0 ≤ a2
           ·rw [if_pos c14] at H
            have c14b0 := eq_true c14
            have c14b1 : decide (0 ≤ a2) = true := decide_eq_true c14
            clear c14
            obtain ⟨ji15, hji15⟩ : ∃ j_ : Int, (shl .i64 a1 a2) = j_ := ⟨_, rfl⟩
            replace H : (some (Go.bits .and .i64 (ji15) 63)) = some r := by first | (rw [hji15] at H; exact H) | (simp only [hji15] at H ⊢; exact H)
            have hji15_ : (IntKind.i64.wrap (a1 * 2 ^ min a2.toNat 64)) = ji15 := hji15
            have hji15z : a2 ≤ 64 → (IntKind.i64.wrap (a1 * 2 ^ a2.toNat)) = ji15 := shl_small hji15
            have hji15y : (wrap64 (a1 * 2 ^ min a2.toNat 64)) = ji15 := (i64_w _).symm.trans hji15_
            have hji15x : a2 ≤ 64 → (wrap64 (a1 * 2 ^ a2.toNat)) = ji15 := fun h_ => (i64_w _).symm.trans (hji15z h_)
            obtain rfl := Option.some.inj H
            go_enter Try.func87, Try.ntmps87
            go_wp2
            go_ret
            exact ⟨by first | rfl | (simp; done) | (simp only [← hji15] <;> (first | rfl | simp)) | (simp [*]; done), yg⟩
           ·rw [if_neg c14] at H
            exact absurd H ye1
          ·rw [if_neg c13] at H
           have c13b0 : decide (a2 < 6) = false := decide_eq_false c13
           clear c13
           obtain rfl := Option.some.inj H
           go_enter Try.func87, Try.ntmps87
           go_wp2
           go_ret
           exact ⟨ye, yg⟩
         ·rw [if_neg c12] at H
          have c12b0 : (a0.toList == ([115, 104, 108] : List UInt8)) = false := beq_eq_false_iff_ne.mpr c12
          have c12b1 : (a0.toList != ([115, 104, 108] : List UInt8)) = true := bne_iff_ne.mpr c12
          by_cases c16 : a0.toList = ([115, 104, 114] : List UInt8)
          ·rw [if_pos c16] at H
           have c16b0 : (a0.toList == ([115, 104, 114] : List UInt8)) = true := beq_iff_eq.mpr c16
           have c16b1 : (a0.toList != ([115, 104, 114] : List UInt8)) = false := bne_eq_false_iff_eq.mpr c16
           clear c16
           by_cases c17 : a2 < 6
           ·rw [if_pos c17] at H
            have c17b0 : decide (a2 < 6) = true := decide_eq_true c17
            clear c17
            by_cases c18 : 0 ≤ a2
            ·rw [if_pos c18] at H
             have c18b0 := eq_true c18
             have c18b1 : decide (0 ≤ a2) = true := decide_eq_true c18
             clear c18
             obtain ⟨ji19, hji19⟩ : ∃ j_ : Int, (shr .i64 a1 a2) = j_ := ⟨_, rfl⟩
             replace H : (some (Go.bits .and .i64 (ji19) 63)) = some r := by first | (rw [hji19] at H; exact H) | (simp only [hji19] at H ⊢; exact H)
             have hji19_ : (a1 / 2 ^ min a2.toNat 64) = ji19 := hji19
             have hji19z : a2 ≤ 64 → (a1 / 2 ^ a2.toNat) = ji19 := shr_small hji19
             obtain rfl := Option.some.inj H
             go_enter Try.func87, Try.ntmps87
             go_wp2
             go_ret
             exact ⟨by first | rfl | (simp; done) | (simp only [← hji19] <;> (first | rfl | simp)) | (simp [*]; done), yg⟩
            ·rw [if_neg c18] at H
             exact absurd H ye1
           ·rw [if_neg c17] at H
            have c17b0 : decide (a2 < 6) = false := decide_eq_false c17
            clear c17
            obtain rfl := Option.some.inj H
            go_enter Try.func87, Try.ntmps87
            go_wp2
            go_ret
            exact ⟨ye, yg⟩
          ·rw [if_neg c16] at H
           have c16b0 : (a0.toList == ([115, 104, 114] : List UInt8)) = false := beq_eq_false_iff_ne.mpr c16
           have c16b1 : (a0.toList != ([115, 104, 114] : List UInt8)) = true := bne_iff_ne.mpr c16
           by_cases c20 : a0.toList = ([108, 101, 115, 115] : List UInt8)
           ·rw [if_pos c20] at H
            have c20b0 : (a0.toList == ([108, 101, 115, 115] : List UInt8)) = true := beq_iff_eq.mpr c20
            have c20b1 : (a0.toList != ([108, 101, 115, 115] : List UInt8)) = false := bne_eq_false_iff_eq.mpr c20
            clear c20
            by_cases c21 : a1 < a2
            ·rw [if_pos c21] at H
             have c21b0 : decide (a1 < a2) = true := decide_eq_true c21
             clear c21
             obtain rfl := Option.some.inj H
             go_enter Try.func87, Try.ntmps87
             go_wp2
             go_ret
             exact ⟨ye, yg⟩
            ·rw [if_neg c21] at H
             have c21b0 : decide (a1 < a2) = false := decide_eq_false c21
             clear c21
             obtain rfl := Option.some.inj H
             go_enter Try.func87, Try.ntmps87
             go_wp2
             go_ret
             exact ⟨ye, yg⟩
           ·rw [if_neg c20] at H
            have c20b0 : (a0.toList == ([108, 101, 115, 115] : List UInt8)) = false := beq_eq_false_iff_ne.mpr c20
            have c20b1 : (a0.toList != ([108, 101, 115, 115] : List UInt8)) = true := bne_iff_ne.mpr c20
            by_cases c22 : a0.toList = ([101, 113] : List UInt8)
            ·rw [if_pos c22] at H
             have c22b0 : (a0.toList == ([101, 113] : List UInt8)) = true := beq_iff_eq.mpr c22
             have c22b1 : (a0.toList != ([101, 113] : List UInt8)) = false := bne_eq_false_iff_eq.mpr c22
             clear c22
             by_cases c23 : a1 = a2
             ·rw [if_pos c23] at H
              have c23b0 : (a1 == a2) = true := beq_iff_eq.mpr c23
              have c23b1 : (a1 != a2) = false := bne_eq_false_iff_eq.mpr c23
              clear c23
              obtain rfl := Option.some.inj H
              go_enter Try.func87, Try.ntmps87
              go_wp2
              go_ret
              exact ⟨ye, yg⟩
             ·rw [if_neg c23] at H
              have c23b0 : (a1 == a2) = false := beq_eq_false_iff_ne.mpr c23
              have c23b1 : (a1 != a2) = true := bne_iff_ne.mpr c23
              obtain rfl := Option.some.inj H
              go_enter Try.func87, Try.ntmps87
              go_wp2
              go_ret
              exact ⟨ye, yg⟩
            ·rw [if_neg c22] at H
             have c22b0 : (a0.toList == ([101, 113] : List UInt8)) = false := beq_eq_false_iff_ne.mpr c22
             have c22b1 : (a0.toList != ([101, 113] : List UInt8)) = true := bne_iff_ne.mpr c22
             obtain rfl := Option.some.inj H
             go_enter Try.func87, Try.ntmps87
             go_wp2
             go_ret
             exact ⟨ye, yg⟩

end Go.Proofs.Ytlcplhcccgbmnaa.D
