/- Contracts: impl_Instr_impl_IsCode_c1_160, impl_IsCode, impl_Instr_59, impl_SwapNeighbours. -/
import Derived.Test.YthnckplfnmkmpaaFK
import Derived.Test.YthnckplfnmkmpaaFSpecL1In
import Derived.Test.YthnckplfnmkmpaaFSpecL1Has
import Derived.Test.YthnckplfnmkmpaaFSpecSwapNeighbours
import Derived.Lib.SliceRun
namespace Go.Proofs.Ythnckplfnmkmpaa.F
open Go.RowKit Go.Proofs.YthnckplfnmkmpaaW.PrintWords Go.Proofs.YthnckplfnmkmpaaW.PrintLast Go.Proofs.YthnckplfnmkmpaaW.PrintMore
attribute [local go_sem] max2_int min2_int max_two min_two max_three min_three max_four min_four   -- for this text's walks alone
set_option linter.unusedVariables false
set_option linter.unusedSimpArgs false

/-! ### impl_Instr_impl_IsCode_c1_160: function 160 -/
def impl_Instr_impl_IsCode_c1_160.f (k : Nat) (l0 : List (S37)) : Option (Bool) := (impl_Instr_impl_IsCode_c1_161.f k l0).bind fun t783 => (some (decide (t783 ≥ 0)))
theorem impl_Instr_impl_IsCode_c1_160.mono : ∀ a0 k, LeO (impl_Instr_impl_IsCode_c1_160.f k a0) (impl_Instr_impl_IsCode_c1_160.f (k + 1) a0) := by
 intro a0 k
 unfold impl_Instr_impl_IsCode_c1_160.f
 repeat' first
   | (with_reducible exact impl_Instr_impl_IsCode_c1_161.mono _ _)
   | (with_reducible exact LeO.refl _)
   | (with_reducible exact LeO.none _)
   | (with_reducible refine LeO.ite ?_ ?_)
   | (with_reducible refine LeO.bind ?_ (fun _ => ?_))
   | exact impl_Instr_impl_IsCode_c1_161.mono _ _
   | exact LeO.none _
   | refine LeO.ite ?_ ?_
   | refine LeO.bind ?_ (fun _ => ?_)
set_option maxHeartbeats 8000000 in
set_option maxRecDepth 100000 in
theorem impl_Instr_impl_IsCode_c1_160.calls (k : Nat) (A0 : Option Addr) (c0 : Nat) (l0 : List (S37)) (r : Bool) (w : World) (hr0 : Kd.C k37 w A0 l0.length l0) (hc0 : l0.length ≤ c0) (h : impl_Instr_impl_IsCode_c1_160.f k l0 = some r) :
  Calls Try.prog 95 #[.slice A0 l0.length c0, .func (.func 96) #[] #[]] w fun e w' => e = .returned (.bool r) ∧ Below w.heap.size w w' := by
 have HR0 := zK hr0
 have HC0 := zK hc0
 clear hr0 hc0
 have HB := zK (Below.refl w.heap.size w)
 have H : ((impl_Instr_impl_IsCode_c1_161.f k l0).bind fun t783 => (some (decide (t783 ≥ 0)))) = some r := h
 clear h
 replace H := Option.bind_eq_some_iff.mp H
 obtain ⟨t783, A20, H⟩ := H
 replace H : (some (decide (t783 ≥ 0))) = some r := H
 have A2 := zK A20
 clear A20
 obtain rfl := Option.some.inj H
 go_enter Try.func95, Try.ntmps95
 go_wp2_with (first | ((with_reducible refine gate_callee (f := 118) rfl ?_); refine goesL_ (some 7) rfl rfl Try.func118 (by kernel_rfl) rfl #[.slice A0 l0.length c0, .func (.func 96) #[] #[]] rfl (by (try simp only [z6, z7, z8]); first | done | rfl | (simp only [z4, z5]; rfl)) ?_; (with_reducible refine (impl_Instr_impl_IsCode_c1_161.calls k _ _ l0 t783 _ ?side1 ?side2 A2.out).mono ?_); (case side1 => repeat (first | exact HR0.out | (with_reducible refine Kd.C_alloc ?_ _) | (with_reducible refine Kd.C_drewN ?_ _) | (with_reducible refine Kd.C_drew ?_))); (case side2 => exact HC0.out); rintro e w3 ⟨rfl, hb⟩; refine ⟨_, rfl, ?_⟩; have n0_ := zK (zL (by repeat (first | (with_reducible first | exact HB.out | apply zA | apply zB | apply zC) | exact HB.out)) hb); clear HB; have HB := n0_; clear n0_; (try clear hb); (try clear hb2); (try clear hk); (try clear hi)))
 go_ret
 exact ⟨by first | rfl | (simp [errW_none, errW_some] <;> rfl) | (simp [*, errW_none, errW_some] <;> rfl), by repeat (first | (with_reducible first | exact HB.out | apply zA | apply zB | apply zC) | exact HB.out)⟩

/-! ### impl_IsCode: function 57 -/
def impl_IsCode.f (k : Nat) (l0 : List (S37)) : Option (Bool) := if (l0.length : Int) ≤ 40 then ((impl_Instr_impl_IsCode_c1_160.f k l0).bind fun t784 => (some (!t784))) else (some false)
theorem impl_IsCode.mono : ∀ a0 k, LeO (impl_IsCode.f k a0) (impl_IsCode.f (k + 1) a0) := by
 intro a0 k
 unfold impl_IsCode.f
 repeat' first
   | (with_reducible exact impl_Instr_impl_IsCode_c1_160.mono _ _)
   | (with_reducible exact LeO.refl _)
   | (with_reducible exact LeO.none _)
   | (with_reducible refine LeO.ite ?_ ?_)
   | (with_reducible refine LeO.bind ?_ (fun _ => ?_))
   | exact impl_Instr_impl_IsCode_c1_160.mono _ _
   | exact LeO.none _
   | refine LeO.ite ?_ ?_
   | refine LeO.bind ?_ (fun _ => ?_)
set_option maxHeartbeats 8000000 in
set_option maxRecDepth 100000 in
theorem impl_IsCode.calls (k : Nat) (A0 : Option Addr) (c0 : Nat) (l0 : List (S37)) (r : Bool) (w : World) (hr0 : Kd.C k37 w A0 l0.length l0) (hc0 : l0.length ≤ c0) (h : impl_IsCode.f k l0 = some r) :
  Calls Try.prog 57 #[.slice A0 l0.length c0] w fun e w' => e = .returned (.bool r) ∧ Below w.heap.size w w' := by
 have HR0 := zK hr0
 have HC0 := zK hc0
 clear hr0 hc0
 have HB := zK (Below.refl w.heap.size w)
 have H : (if (l0.length : Int) ≤ 40 then ((impl_Instr_impl_IsCode_c1_160.f k l0).bind fun t784 => (some (!t784))) else (some false)) = some r := h
 clear h
 by_cases c2 : (l0.length : Int) ≤ 40
 ·rw [if_pos c2] at H
  have c2b0 : decide ((l0.length : Int) ≤ 40) = true := decide_eq_true c2
  have c2b1 : decide (l0.length ≤ 40) = true := decide_eq_true (by omega)
  clear c2
  replace H := Option.bind_eq_some_iff.mp H
  obtain ⟨t784, A30, H⟩ := H
  replace H : (some (!t784)) = some r := H
  have A3 := zK A30
  clear A30
  obtain rfl := Option.some.inj H
  go_enter Try.func57, Try.ntmps57
  go_wp2_with (first | (go_at_call 95; (with_reducible refine (impl_Instr_impl_IsCode_c1_160.calls k _ _ l0 t784 _ ?side1 ?side2 A3.out).mono ?_); (case side1 => repeat (first | exact HR0.out | (with_reducible refine Kd.C_alloc ?_ _) | (with_reducible refine Kd.C_drewN ?_ _) | (with_reducible refine Kd.C_drew ?_))); (case side2 => exact HC0.out); rintro e w4 ⟨rfl, hb⟩; have n0_ := zK (zL (by repeat (first | (with_reducible first | exact HB.out | apply zA | apply zB | apply zC) | exact HB.out)) hb); clear HB; have HB := n0_; clear n0_; (try clear hb); (try clear hb2); (try clear hk); (try clear hi)))
  go_ret
  exact ⟨by first | rfl | (simp [errW_none, errW_some] <;> rfl) | (simp [*, errW_none, errW_some] <;> rfl), by repeat (first | (with_reducible first | exact HB.out | apply zA | apply zB | apply zC) | exact HB.out)⟩
 ·rw [if_neg c2] at H
  have c2b0 : decide ((l0.length : Int) ≤ 40) = false := decide_eq_false c2
  have c2b1 : decide (l0.length ≤ 40) = false := decide_eq_false (by omega)
  clear c2
  obtain rfl := Option.some.inj H
  go_enter Try.func57, Try.ntmps57
  go_wp2
  go_ret
  exact ⟨by first | rfl | (simp [errW_none, errW_some] <;> rfl) | (simp [*, errW_none, errW_some] <;> rfl), by repeat (first | (with_reducible first | exact HB.out | apply zA | apply zB | apply zC) | exact HB.out)⟩

/-! ### impl_Instr_59: function 59 -/
def impl_Instr_59.f (l0 : List (S37)) : Option ((List (S37))) := (some (([] : List (S37)) : List (S37))).bind fun y785 => (if y785.length + l0.length < 2932031007402 then (some (y785 ++ l0)) else (none))
-- needs: Derived.Lib.SliceRun
set_option maxHeartbeats 8000000 in
set_option maxRecDepth 100000 in
theorem impl_Instr_59.calls (A0 : Option Addr) (c0 : Nat) (l0 : List (S37)) (r : List (S37)) (w : World) (hr0 : Kd.C k37 w A0 l0.length l0) (hc0 : l0.length ≤ c0) (h : impl_Instr_59.f l0 = some r) :
  Calls Try.prog 59 #[.slice A0 l0.length c0] w fun e w' => ∃ v0_ : Value, e = .returned (v0_) ∧ Kd.R k37 37 w' w.heap.size (fun _ => True) v0_ r ∧ Below w.heap.size w w' := by
 cases A0 with
 | none =>
  have hl : l0 = [] := by
   rcases Nat.eq_zero_or_pos l0.length with h0 | h0
   ·exact List.length_eq_zero_iff.1 h0
   ·obtain ⟨_, e, _⟩ := hr0.2.2 h0
    cases e
  subst hl
  obtain rfl : r = [] := by
   have h' := h
   simp [impl_Instr_59.f] at h'
   exact h'
  clear h hr0 hc0
  have hnil := fun W : World => Lib.run_eql_slice_nil (P := Try.prog) W 47 37 none 0 c0 0 0 Try.underlying47
  simp only [Option.isNone_none, List.length_nil] at hnil ⊢
  go_enter Try.func59, Try.ntmps59
  go_wp2
  go_ret
  exact ⟨_, rfl, Kd.R_nil _ _ _ _ _, Below.refl _ _⟩
 | some ad =>
  have HR0 := zK hr0
  have HC0 := zK hc0
  clear hr0 hc0
  have HB := zK (Below.refl w.heap.size w)
  have H : ((some (([] : List (S37)) : List (S37))).bind fun y785 => (if y785.length + l0.length < 2932031007402 then (some (y785 ++ l0)) else (none))) = some r := h
  clear h
  obtain ⟨y785, hy785⟩ : ∃ y_ : List (S37), y_ = (([] : List (S37))) := ⟨_, rfl⟩
  replace H : (if y785.length + l0.length < 2932031007402 then (some (y785 ++ l0)) else (none)) = some r := by first | (rw [hy785]; with_reducible exact H) | (have H2_ := (Option.bind_some _ _).symm.trans H; rw [hy785]; with_reducible exact H2_) | (have H2_ := (Option.bind_some _ _).symm.trans H; with_reducible exact H2_) | with_reducible exact H | (rw [hy785]; exact H) | exact H
  have Ny785 := zK hy785
  clear hy785
  by_cases c2 : y785.length + l0.length < 2932031007402
  ·rw [if_pos c2] at H
   have LMc2 := zK c2
   clear c2
   obtain ⟨y788, hy788⟩ : ∃ y_ : List (S37), y_ = (y785 ++ l0) := ⟨_, rfl⟩
   replace H : (some y788) = some r := by first | (rw [hy788]; with_reducible exact H) | (have H2_ := (Option.bind_some _ _).symm.trans H; rw [hy788]; with_reducible exact H2_) | (have H2_ := (Option.bind_some _ _).symm.trans H; with_reducible exact H2_) | with_reducible exact H | (rw [hy788]; exact H) | exact H
   have Ny788 := zK hy788
   clear hy788
   obtain rfl := Option.some.inj H
   have hnil := fun W : World => Lib.run_eql_slice_nil (P := Try.prog) W 47 37 (some ad) l0.length c0 0 0 Try.underlying47
   simp only [Option.isNone_some] at hnil
   go_enter Try.func59, Try.ntmps59
   go_wp2_with (first | ((with_reducible refine gate_dst (N := 5) rfl ?_); refine Kd.R_lit k37 _ 37 ?hg (N := 5) ?hd (xs := ([] : List (S37))) (inner := []) (ok := fun _ => True) (okp := fun _ => True) ?hr ?hp (fun _ hk => hk) trivial (Below.refl _ _) (Nat.le_refl _) (by simp) ?_; (case hd => rfl); (case hg => rfl); (case hr => first | (go_simp; done) | (go_simp; rfl)); (case hp => exact (Reps.none _ _)); intro v786 w3 ho4 hb hg_ hnew_; clear hg_ hnew_; (first | rw [← Ny785.out] at ho4 | (simp only [Int.reduceToNat] at ho4; rw [← Ny785.out] at ho4)); have n0_ := zK (Kd.R_lower ho4 (zN (by repeat (first | (with_reducible first | exact HB.out | apply zA | apply zB | apply zC) | exact HB.out)))); have n1_ := zK (zL (by repeat (first | (with_reducible first | exact HB.out | apply zA | apply zB | apply zC) | exact HB.out)) hb); clear HB; have HO787 := n0_; have HB := n1_; clear n0_ n1_; clear hb ho4) | ((with_reducible refine gate_builtin (b := .append) (xs := #[.tmp 5, .tmp 6]) rfl ?_); at_builtin; refine Kd.R_append_rows k37 (w0 := w) w.heap.size rfl (.tmp 5) (.tmp 6) 47 37 (.agg #[(.string ⟨#[]⟩), (.int .i64 0), (.int .i64 0), (.int .i64 0), (.int .i64 0)]) 48 rfl Try.underlying47 info37 rfl (by decide) (by omega) v786 y785 l0 _ _ _ (fun _ => True) (fun _ => False) rfl rfl ?aO ?aR (fun _ _ h => h) (fun _ h => h.elim) ?aF ?aB ?aS ?aL ?_; (case aR => repeat (first | exact (Kd.C_below HR0.out HB.out) | (with_reducible refine Kd.C_alloc ?_ _) | (with_reducible refine Kd.C_drewN ?_ _) | (with_reducible refine Kd.C_drew ?_))); (case aB => exact (by repeat (first | (with_reducible first | exact HB.out | apply zA | apply zB | apply zC) | exact HB.out))); (case aF => exact (fun _ _ => trivial)); (case aO => exact (by (with_reducible repeat (first | apply Kd.R_alloc | apply Kd.R_drewN | apply Kd.R_drew)); exact HO787.out)); (case aS => exact (zN (by repeat (first | (with_reducible first | exact HB.out | apply zA | apply zB | apply zC) | exact HB.out)))); (case aL => have := LMc2.out; omega); intro v789 w5 ho hb hg hat; rw [← Ny788.out] at ho; have n0_ := zK (hb); have n1_ := zK (ho); clear HB; clear HO787; have HB := n0_; have HO790 := n1_; clear n0_ n1_; clear ho hb hg hat))
   go_ret
   exact ⟨_, by first | rfl | (simp [errW_none, errW_some] <;> rfl) | (simp [*, errW_none, errW_some] <;> rfl), by (with_reducible repeat (first | apply Kd.R_alloc | apply Kd.R_drewN | apply Kd.R_drew)); exact HO790.out, by repeat (first | (with_reducible first | exact HB.out | apply zA | apply zB | apply zC) | exact HB.out)⟩
  ·rw [if_neg c2] at H
   exact absurd H (by simp)

/-! ### impl_SwapNeighbours: function 28 -/
def impl_SwapNeighbours.f (k : Nat) (l0 : List (S37)) (a1 : Int) : Option ((List (S37)) × Bool) := (impl_IsCode.f k l0).bind fun t791 => (if t791 = true then ((impl_within.f a1 0 (wrap64 ((l0.length : Int) - 2))).bind fun t792 => (if t792 = true then (if 0 ≤ a1 then (if a1 < (l0.length : Int) then (if 0 ≤ (wrap64 (a1 + 1)) then (if (wrap64 (a1 + 1)) < (l0.length : Int) then ((impl_independent.f k ((rd_T37 l0 a1).f0) ((rd_T37 l0 a1).f1) ((rd_T37 l0 a1).f2) ((rd_T37 l0 a1).f3) ((rd_T37 l0 a1).f4) ((rd_T37 l0 (wrap64 (a1 + 1))).f0) ((rd_T37 l0 (wrap64 (a1 + 1))).f1) ((rd_T37 l0 (wrap64 (a1 + 1))).f2) ((rd_T37 l0 (wrap64 (a1 + 1))).f3) ((rd_T37 l0 (wrap64 (a1 + 1))).f4)).bind fun t795 => (if t795 = true then ((impl_Instr_59.f l0).bind fun t796 => (if (wrap64 (a1 + 1)) < (t796.length : Int) then (if a1 < (t796.length : Int) then (some (((t796.set (a1 : Int).toNat (⟨(rd_T37 t796 (wrap64 (a1 + 1))).f0, (rd_T37 t796 (wrap64 (a1 + 1))).f1, (rd_T37 t796 (wrap64 (a1 + 1))).f2, (rd_T37 t796 (wrap64 (a1 + 1))).f3, (rd_T37 t796 (wrap64 (a1 + 1))).f4⟩ : S37)).set ((wrap64 (a1 + 1)) : Int).toNat (⟨(rd_T37 t796 a1).f0, (rd_T37 t796 a1).f1, (rd_T37 t796 a1).f2, (rd_T37 t796 a1).f3, (rd_T37 t796 a1).f4⟩ : S37)), true)) else (none)) else (none))) else (some (([] : List (S37)), false)))) else (none)) else (none)) else (none)) else (none)) else (some (([] : List (S37)), false)))) else (some (([] : List (S37)), false)))
theorem next_ne {x y : Int} (h1 : 0 ≤ x) (h2 : 0 ≤ y) (h3 : wrap64 (y + 1) = x) : ¬ x.toNat * 5 = y.toNat * 5 := by
 unfold wrap64 at h3
 omega
theorem impl_SwapNeighbours.mono : ∀ a0 a1 k, LeO (impl_SwapNeighbours.f k a0 a1) (impl_SwapNeighbours.f (k + 1) a0 a1) := by
 intro a0 a1 k
 unfold impl_SwapNeighbours.f
 repeat' first
   | (with_reducible exact impl_IsCode.mono _ _)
   | (with_reducible exact impl_independent.mono _ _ _ _ _ _ _ _ _ _ _)
   | (with_reducible exact LeO.refl _)
   | (with_reducible exact LeO.none _)
   | (with_reducible refine LeO.ite ?_ ?_)
   | (with_reducible refine LeO.bind ?_ (fun _ => ?_))
   | exact impl_IsCode.mono _ _
   | exact impl_independent.mono _ _ _ _ _ _ _ _ _ _ _
   | exact LeO.none _
   | refine LeO.ite ?_ ?_
   | refine LeO.bind ?_ (fun _ => ?_)
def impl_SwapNeighbours.T1 : Bool × List (List Nat × List Nat) := (true, [([], []), ([0], [0]), ([1], [1]), ([2, 1], [2]), ([3], [3]), ([3], [3]), ([5, 3], [3, 5]), ([6, 3], [3, 6]), ([4, 7, 3, 3], [3, 4, 7]), ([8, 3], [3, 8]), ([3, 9], [3, 9]), ([10, 8], [10]), ([11], [11]), ([11], [11]), ([12, 13, 11], [11, 12, 13]), ([14, 11], [11, 14]), ([11], [11]), ([11], [11]), ([17, 11], [11, 17]), ([16, 18, 11], [11, 16, 18]), ([19, 11], [11, 19]), ([15, 20, 11, 11], [11, 15, 20]), ([21, 11], [11, 21]), ([11, 22], [11, 22])])
def impl_SwapNeighbours.B1 : List Nat := [0, 1, 3, 7, 15, 15, 47, 111, 255, 511, 1023, 2047, 4095, 4095, 16383, 32767, 4095, 4095, 135167, 462847, 987135, 2097151, 4194303, 8388607]
theorem impl_SwapNeighbours.tab1 : rtab .any (opsOf Try.f28 1) = impl_SwapNeighbours.T1 := by kernel_rfl
theorem impl_SwapNeighbours.bits1 : waitsOk impl_SwapNeighbours.T1.2 impl_SwapNeighbours.B1 = true := by kernel_rfl
def impl_SwapNeighbours.T4 : Bool × List (List Nat × List Nat) := (true, [([], []), ([], []), ([], []), ([], []), ([3], [3]), ([], []), ([], []), ([6], [6]), ([5, 7], [5, 7]), ([8], [8]), ([], []), ([], []), ([10, 11], [10, 11]), ([12], [12]), ([0, 1, 0, 1, 5, 6, 7, 8, 9, 13], [0, 1]), ([14, 9, 0, 1, 5, 6, 7, 8, 9, 13], [9, 14]), ([2, 4, 0, 1, 2, 3, 4, 5, 6, 7, 8, 9, 10, 11, 12, 13, 14, 15], [2, 4]), ([16, 13, 15, 0, 1, 2, 3, 4, 5, 6, 7, 8, 9, 10, 11, 12, 13, 14, 15], [13, 16])])
def impl_SwapNeighbours.B4 : List Nat := [0, 0, 0, 0, 8, 0, 0, 64, 224, 480, 0, 0, 3072, 7168, 16355, 32739, 65535, 131071]
theorem impl_SwapNeighbours.tab4 : rtab .any (opsOf Try.f28 4) = impl_SwapNeighbours.T4 := by kernel_rfl
theorem impl_SwapNeighbours.bits4 : waitsOk impl_SwapNeighbours.T4.2 impl_SwapNeighbours.B4 = true := by kernel_rfl
set_option maxHeartbeats 8000000 in
set_option maxRecDepth 100000 in
theorem impl_SwapNeighbours.calls (k : Nat) (A0 : Option Addr) (c0 : Nat) (l0 : List (S37)) (a1 : Int) (r1 : List (S37)) (r2 : Bool) (w : World) (hr0 : Kd.C k37 w A0 l0.length l0) (hc0 : l0.length ≤ c0) (h : impl_SwapNeighbours.f k l0 a1 = some (r1, r2)) :
  Calls Try.prog 28 #[.slice A0 l0.length c0, .int .i64 a1] w fun e w' => ∃ v0_ : Value, e = .returned (.tuple #[v0_, .bool r2]) ∧ Kd.R k37 37 w' w.heap.size (fun _ => True) v0_ r1 ∧ Below w.heap.size w w' := by
 have hu37 := Try.underlying37
 have HR0 := zK hr0
 have HC0 := zK hc0
 clear hr0 hc0
 have HB := zK (Below.refl w.heap.size w)
 have H : ((impl_IsCode.f k l0).bind fun t791 => (if t791 = true then ((impl_within.f a1 0 (wrap64 ((l0.length : Int) - 2))).bind fun t792 => (if t792 = true then (if 0 ≤ a1 then (if a1 < (l0.length : Int) then (if 0 ≤ (wrap64 (a1 + 1)) then (if (wrap64 (a1 + 1)) < (l0.length : Int) then ((impl_independent.f k ((rd_T37 l0 a1).f0) ((rd_T37 l0 a1).f1) ((rd_T37 l0 a1).f2) ((rd_T37 l0 a1).f3) ((rd_T37 l0 a1).f4) ((rd_T37 l0 (wrap64 (a1 + 1))).f0) ((rd_T37 l0 (wrap64 (a1 + 1))).f1) ((rd_T37 l0 (wrap64 (a1 + 1))).f2) ((rd_T37 l0 (wrap64 (a1 + 1))).f3) ((rd_T37 l0 (wrap64 (a1 + 1))).f4)).bind fun t795 => (if t795 = true then ((impl_Instr_59.f l0).bind fun t796 => (if (wrap64 (a1 + 1)) < (t796.length : Int) then (if a1 < (t796.length : Int) then (some (((t796.set (a1 : Int).toNat (⟨(rd_T37 t796 (wrap64 (a1 + 1))).f0, (rd_T37 t796 (wrap64 (a1 + 1))).f1, (rd_T37 t796 (wrap64 (a1 + 1))).f2, (rd_T37 t796 (wrap64 (a1 + 1))).f3, (rd_T37 t796 (wrap64 (a1 + 1))).f4⟩ : S37)).set ((wrap64 (a1 + 1)) : Int).toNat (⟨(rd_T37 t796 a1).f0, (rd_T37 t796 a1).f1, (rd_T37 t796 a1).f2, (rd_T37 t796 a1).f3, (rd_T37 t796 a1).f4⟩ : S37)), true)) else (none)) else (none))) else (some (([] : List (S37)), false)))) else (none)) else (none)) else (none)) else (none)) else (some (([] : List (S37)), false)))) else (some (([] : List (S37)), false)))) = some (r1, r2) := h
 clear h
 replace H := Option.bind_eq_some_iff.mp H
 obtain ⟨t791, A30, H⟩ := H
 replace H : (if t791 = true then ((impl_within.f a1 0 (wrap64 ((l0.length : Int) - 2))).bind fun t792 => (if t792 = true then (if 0 ≤ a1 then (if a1 < (l0.length : Int) then (if 0 ≤ (wrap64 (a1 + 1)) then (if (wrap64 (a1 + 1)) < (l0.length : Int) then ((impl_independent.f k ((rd_T37 l0 a1).f0) ((rd_T37 l0 a1).f1) ((rd_T37 l0 a1).f2) ((rd_T37 l0 a1).f3) ((rd_T37 l0 a1).f4) ((rd_T37 l0 (wrap64 (a1 + 1))).f0) ((rd_T37 l0 (wrap64 (a1 + 1))).f1) ((rd_T37 l0 (wrap64 (a1 + 1))).f2) ((rd_T37 l0 (wrap64 (a1 + 1))).f3) ((rd_T37 l0 (wrap64 (a1 + 1))).f4)).bind fun t795 => (if t795 = true then ((impl_Instr_59.f l0).bind fun t796 => (if (wrap64 (a1 + 1)) < (t796.length : Int) then (if a1 < (t796.length : Int) then (some (((t796.set (a1 : Int).toNat (⟨(rd_T37 t796 (wrap64 (a1 + 1))).f0, (rd_T37 t796 (wrap64 (a1 + 1))).f1, (rd_T37 t796 (wrap64 (a1 + 1))).f2, (rd_T37 t796 (wrap64 (a1 + 1))).f3, (rd_T37 t796 (wrap64 (a1 + 1))).f4⟩ : S37)).set ((wrap64 (a1 + 1)) : Int).toNat (⟨(rd_T37 t796 a1).f0, (rd_T37 t796 a1).f1, (rd_T37 t796 a1).f2, (rd_T37 t796 a1).f3, (rd_T37 t796 a1).f4⟩ : S37)), true)) else (none)) else (none))) else (some (([] : List (S37)), false)))) else (none)) else (none)) else (none)) else (none)) else (some (([] : List (S37)), false)))) else (some (([] : List (S37)), false))) = some (r1, r2) := H
 have A3 := zK A30
 clear A30
 by_cases c4 : t791 = true
 ·subst c4
  rw [if_pos rfl] at H
  replace H := Option.bind_eq_some_iff.mp H
  obtain ⟨t792, A50, H⟩ := H
  replace H : (if t792 = true then (if 0 ≤ a1 then (if a1 < (l0.length : Int) then (if 0 ≤ (wrap64 (a1 + 1)) then (if (wrap64 (a1 + 1)) < (l0.length : Int) then ((impl_independent.f k ((rd_T37 l0 a1).f0) ((rd_T37 l0 a1).f1) ((rd_T37 l0 a1).f2) ((rd_T37 l0 a1).f3) ((rd_T37 l0 a1).f4) ((rd_T37 l0 (wrap64 (a1 + 1))).f0) ((rd_T37 l0 (wrap64 (a1 + 1))).f1) ((rd_T37 l0 (wrap64 (a1 + 1))).f2) ((rd_T37 l0 (wrap64 (a1 + 1))).f3) ((rd_T37 l0 (wrap64 (a1 + 1))).f4)).bind fun t795 => (if t795 = true then ((impl_Instr_59.f l0).bind fun t796 => (if (wrap64 (a1 + 1)) < (t796.length : Int) then (if a1 < (t796.length : Int) then (some (((t796.set (a1 : Int).toNat (⟨(rd_T37 t796 (wrap64 (a1 + 1))).f0, (rd_T37 t796 (wrap64 (a1 + 1))).f1, (rd_T37 t796 (wrap64 (a1 + 1))).f2, (rd_T37 t796 (wrap64 (a1 + 1))).f3, (rd_T37 t796 (wrap64 (a1 + 1))).f4⟩ : S37)).set ((wrap64 (a1 + 1)) : Int).toNat (⟨(rd_T37 t796 a1).f0, (rd_T37 t796 a1).f1, (rd_T37 t796 a1).f2, (rd_T37 t796 a1).f3, (rd_T37 t796 a1).f4⟩ : S37)), true)) else (none)) else (none))) else (some (([] : List (S37)), false)))) else (none)) else (none)) else (none)) else (none)) else (some (([] : List (S37)), false))) = some (r1, r2) := H
  have A5 := zK A50
  clear A50
  by_cases c6 : t792 = true
  ·subst c6
   rw [if_pos rfl] at H
   by_cases c7 : 0 ≤ a1
   ·rw [if_pos c7] at H
    have c7b0 : decide (0 ≤ a1) = true := decide_eq_true c7
    clear c7
    by_cases c8 : a1 < (l0.length : Int)
    ·rw [if_pos c8] at H
     have c8b0 : decide (a1 < (l0.length : Int)) = true := decide_eq_true c8
     clear c8
     obtain ⟨ji9, hji9⟩ : ∃ j_ : Int, (wrap64 (a1 + 1)) = j_ := ⟨_, rfl⟩
     replace H : (if 0 ≤ (ji9) then (if (ji9) < (l0.length : Int) then ((impl_independent.f k ((rd_T37 l0 a1).f0) ((rd_T37 l0 a1).f1) ((rd_T37 l0 a1).f2) ((rd_T37 l0 a1).f3) ((rd_T37 l0 a1).f4) ((rd_T37 l0 (ji9)).f0) ((rd_T37 l0 (ji9)).f1) ((rd_T37 l0 (ji9)).f2) ((rd_T37 l0 (ji9)).f3) ((rd_T37 l0 (ji9)).f4)).bind fun t795 => (if t795 = true then ((impl_Instr_59.f l0).bind fun t796 => (if (ji9) < (t796.length : Int) then (if a1 < (t796.length : Int) then (some (((t796.set (a1 : Int).toNat (⟨(rd_T37 t796 (ji9)).f0, (rd_T37 t796 (ji9)).f1, (rd_T37 t796 (ji9)).f2, (rd_T37 t796 (ji9)).f3, (rd_T37 t796 (ji9)).f4⟩ : S37)).set ((ji9) : Int).toNat (⟨(rd_T37 t796 a1).f0, (rd_T37 t796 a1).f1, (rd_T37 t796 a1).f2, (rd_T37 t796 a1).f3, (rd_T37 t796 a1).f4⟩ : S37)), true)) else (none)) else (none))) else (some (([] : List (S37)), false)))) else (none)) else (none)) = some (r1, r2) := by first | (rw [hji9] at H; exact H) | (simp only [hji9] at H ⊢; exact H)
     (try rw [hji9] at A3)
     (try rw [hji9] at A5)
     have hji9w : (IntKind.i64.wrap (a1 + 1)) = ji9 := (i64_w _).trans hji9
     by_cases c10 : 0 ≤ (ji9)
     ·rw [if_pos c10] at H
      have c10b0 : decide (0 ≤ (ji9)) = true := decide_eq_true c10
      clear c10
      by_cases c11 : (ji9) < (l0.length : Int)
      ·rw [if_pos c11] at H
       have c11b0 : decide ((ji9) < (l0.length : Int)) = true := decide_eq_true c11
       clear c11
       replace H := Option.bind_eq_some_iff.mp H
       obtain ⟨t795, A120, H⟩ := H
       replace H : (if t795 = true then ((impl_Instr_59.f l0).bind fun t796 => (if (ji9) < (t796.length : Int) then (if a1 < (t796.length : Int) then (some (((t796.set (a1 : Int).toNat (⟨(rd_T37 t796 (ji9)).f0, (rd_T37 t796 (ji9)).f1, (rd_T37 t796 (ji9)).f2, (rd_T37 t796 (ji9)).f3, (rd_T37 t796 (ji9)).f4⟩ : S37)).set ((ji9) : Int).toNat (⟨(rd_T37 t796 a1).f0, (rd_T37 t796 a1).f1, (rd_T37 t796 a1).f2, (rd_T37 t796 a1).f3, (rd_T37 t796 a1).f4⟩ : S37)), true)) else (none)) else (none))) else (some (([] : List (S37)), false))) = some (r1, r2) := H
       have A12 := zK A120
       clear A120
       by_cases c13 : t795 = true
       ·subst c13
        rw [if_pos rfl] at H
        replace H := Option.bind_eq_some_iff.mp H
        obtain ⟨t796, A140, H⟩ := H
        replace H : (if (ji9) < (t796.length : Int) then (if a1 < (t796.length : Int) then (some (((t796.set (a1 : Int).toNat (⟨(rd_T37 t796 (ji9)).f0, (rd_T37 t796 (ji9)).f1, (rd_T37 t796 (ji9)).f2, (rd_T37 t796 (ji9)).f3, (rd_T37 t796 (ji9)).f4⟩ : S37)).set ((ji9) : Int).toNat (⟨(rd_T37 t796 a1).f0, (rd_T37 t796 a1).f1, (rd_T37 t796 a1).f2, (rd_T37 t796 a1).f3, (rd_T37 t796 a1).f4⟩ : S37)), true)) else (none)) else (none)) = some (r1, r2) := H
        have A14 := zK A140
        clear A140
        by_cases c15 : (ji9) < (t796.length : Int)
        ·rw [if_pos c15] at H
         have c15b0 : decide ((ji9) < (t796.length : Int)) = true := decide_eq_true c15
         clear c15
         by_cases c16 : a1 < (t796.length : Int)
         ·rw [if_pos c16] at H
          have c16b0 : decide (a1 < (t796.length : Int)) = true := decide_eq_true c16
          clear c16
          obtain ⟨y801, hy801⟩ : ∃ y_ : List (S37), y_ = (t796.set (a1 : Int).toNat (⟨(rd_T37 t796 (ji9)).f0, (rd_T37 t796 (ji9)).f1, (rd_T37 t796 (ji9)).f2, (rd_T37 t796 (ji9)).f3, (rd_T37 t796 (ji9)).f4⟩ : S37)) := ⟨_, rfl⟩
          replace H : (some ((y801.set ((ji9) : Int).toNat (⟨(rd_T37 t796 a1).f0, (rd_T37 t796 a1).f1, (rd_T37 t796 a1).f2, (rd_T37 t796 a1).f3, (rd_T37 t796 a1).f4⟩ : S37)), true)) = some (r1, r2) := by first | (rw [hy801]; with_reducible exact H) | (have H2_ := (Option.bind_some _ _).symm.trans H; rw [hy801]; with_reducible exact H2_) | (have H2_ := (Option.bind_some _ _).symm.trans H; with_reducible exact H2_) | with_reducible exact H | (rw [hy801]; exact H) | exact H
          have Ny801 := zK hy801
          clear hy801
          obtain ⟨y802, hy802⟩ : ∃ y_ : List (S37), y_ = (y801.set ((ji9) : Int).toNat (⟨(rd_T37 t796 a1).f0, (rd_T37 t796 a1).f1, (rd_T37 t796 a1).f2, (rd_T37 t796 a1).f3, (rd_T37 t796 a1).f4⟩ : S37)) := ⟨_, rfl⟩
          replace H : (some (y802, true)) = some (r1, r2) := by first | (rw [hy802]; with_reducible exact H) | (have H2_ := (Option.bind_some _ _).symm.trans H; rw [hy802]; with_reducible exact H2_) | (have H2_ := (Option.bind_some _ _).symm.trans H; with_reducible exact H2_) | with_reducible exact H | (rw [hy802]; exact H) | exact H
          have Ny802 := zK hy802
          clear hy802
          simp only [Option.some.injEq, Prod.mk.injEq] at H
          obtain ⟨rfl, rfl⟩ := H
          go_enter Try.func28, Try.ntmps28
          try go_wp2
          have n0_ := zK (zC HB.out)
          clear HB
          have HB := n0_
          clear n0_
          have p793 : 0 ≤ (a1 : Int) := zo
          have q793 : a1 < (l0.length : Int) := zo
          obtain ⟨ad793, e793, hx793_0, hx793_1, hx793_2, hx793_3, hx793_4⟩ := at_T37 HR0.out a1 p793 q793
          have hw793_4 := hx793_4
          have hw793_3 := hx793_3
          have hw793_2 := hx793_2
          have hw793_1 := hx793_1
          have hw793_0 := hx793_0
          cases e793
          replace hx793_0 := zt HB.out hx793_0
          replace hx793_1 := zt HB.out hx793_1
          replace hx793_2 := zt HB.out hx793_2
          replace hx793_3 := zt HB.out hx793_3
          replace hx793_4 := zt HB.out hx793_4
          replace p793 := eq_true p793
          replace q793 := eq_true q793
          have p794 : 0 ≤ ((ji9) : Int) := zo
          have q794 : (ji9) < (l0.length : Int) := zo
          obtain ⟨ad794, e794, hx794_0, hx794_1, hx794_2, hx794_3, hx794_4⟩ := at_T37 HR0.out (ji9) p794 q794
          have hw794_4 := hx794_4
          have hw794_3 := hx794_3
          have hw794_2 := hx794_2
          have hw794_1 := hx794_1
          have hw794_0 := hx794_0
          obtain rfl : ad793 = ad794 := (by injection e794)
          replace hx794_0 := zt HB.out hx794_0
          replace hx794_1 := zt HB.out hx794_1
          replace hx794_2 := zt HB.out hx794_2
          replace hx794_3 := zt HB.out hx794_3
          replace hx794_4 := zt HB.out hx794_4
          replace p794 := eq_true p794
          replace q794 := eq_true q794
          refine start_ (n := 24) (S := fun w' => w'.cell? (ad793.add ((a1).toNat * 5)) = some (.string ((rd_T37 l0 a1).f0)) ∧ w'.cell? ⟨(ad793.add ((a1).toNat * 5)).block, (ad793.add ((a1).toNat * 5)).off + 1, none⟩ = some (.int .i64 ((rd_T37 l0 a1).f1)) ∧ w'.cell? ⟨(ad793.add ((a1).toNat * 5)).block, (ad793.add ((a1).toNat * 5)).off + 2, none⟩ = some (.int .i64 ((rd_T37 l0 a1).f2)) ∧ w'.cell? ⟨(ad793.add ((a1).toNat * 5)).block, (ad793.add ((a1).toNat * 5)).off + 3, none⟩ = some (.int .i64 ((rd_T37 l0 a1).f3)) ∧ w'.cell? ⟨(ad793.add ((a1).toNat * 5)).block, (ad793.add ((a1).toNat * 5)).off + 4, none⟩ = some (.int .i64 ((rd_T37 l0 a1).f4)) ∧ w'.cell? (ad793.add (((ji9)).toNat * 5)) = some (.string ((rd_T37 l0 (ji9)).f0)) ∧ w'.cell? ⟨(ad793.add (((ji9)).toNat * 5)).block, (ad793.add (((ji9)).toNat * 5)).off + 1, none⟩ = some (.int .i64 ((rd_T37 l0 (ji9)).f1)) ∧ w'.cell? ⟨(ad793.add (((ji9)).toNat * 5)).block, (ad793.add (((ji9)).toNat * 5)).off + 2, none⟩ = some (.int .i64 ((rd_T37 l0 (ji9)).f2)) ∧ w'.cell? ⟨(ad793.add (((ji9)).toNat * 5)).block, (ad793.add (((ji9)).toNat * 5)).off + 3, none⟩ = some (.int .i64 ((rd_T37 l0 (ji9)).f3)) ∧ w'.cell? ⟨(ad793.add (((ji9)).toNat * 5)).block, (ad793.add (((ji9)).toNat * 5)).off + 4, none⟩ = some (.int .i64 ((rd_T37 l0 (ji9)).f4))) (ds := []) #[false, false, false, false, false, false, false, false, false, false, false, false, false, false, false, false, false, false, false, false, false, false, false, false] (by kernel_rfl) rfl rfl ⟨(zt HB.out hw793_0), (zt HB.out hw793_1), (zt HB.out hw793_2), (zt HB.out hw793_3), (zt HB.out hw793_4), (zt HB.out hw794_0), (zt HB.out hw794_1), (zt HB.out hw794_2), (zt HB.out hw794_3), (zt HB.out hw794_4)⟩ (fun hHeld => ?_); refine with_tabW impl_SwapNeighbours.tab1 impl_SwapNeighbours.bits1 (fun HT_ HW_ => ?_)
          generalize w.drew = w19 at HB hx793_0 hx793_1 hx793_2 hx793_3 hx793_4 hx794_0 hx794_1 hx794_2 hx794_3 hx794_4 hHeld ⊢
          refine pure_ (i := 0) (N := some 7) (v := ?_) (a' := ?_) #[true, false, false, false, false, false, false, false, false, false, false, false, false, false, false, false, false, false, false, false, false, false, false, false] rfl rfl (any_of HT_.out (by kernel_rfl)) (fun _ _ _ h => h) (Or.inl ⟨by rfl, ?_⟩) ?_ ?_
          rotate_left
          ·intro w'
           go_simp
           with_reducible rfl
          rotate_left
          ·simp only [Act.put, z1, z2, z3, i64_w, i32_w]
           rfl
          refine one_ (i := 1) (N := some 8) #[true, true, false, false, false, false, false, false, false, false, false, false, false, false, false, false, false, false, false, false, false, false, false, false] rfl rfl (one_of HT_.out (by kernel_rfl)) (by decide) (fun K hK => ?_)
          refine goes_ Try.func57 (by kernel_rfl) rfl #[.slice (some ad793) l0.length c0] (by rfl) rfl rfl (by (try simp only [z6, z7, z8]); first | done | rfl | (simp only [z4, z5]; rfl)) ?_
          with_reducible refine (impl_IsCode.calls k _ _ l0 true _ ?side1 ?side2 A3.out).mono ?_
          (case side1 => repeat (first | exact (Kd.C_below HR0.out HB.out) | (with_reducible refine Kd.C_alloc ?_ _) | (with_reducible refine Kd.C_drewN ?_ _) | (with_reducible refine Kd.C_drew ?_)))
          (case side2 => exact HC0.out)
          rintro e w20 ⟨rfl, hb⟩
          refine ⟨_, rfl, ?_⟩
          have n0_ := zK (zL (by repeat (first | (with_reducible first | exact HB.out | apply zA | apply zB | apply zC) | exact HB.out)) hb)
          clear HB
          have HB := n0_
          clear n0_
          (try clear hb)
          (try clear hb2)
          (try clear hk)
          (try clear hi)
          refine hK.out _ _ ⟨(zt HB.out hw793_0 :), (zt HB.out hw793_1 :), (zt HB.out hw793_2 :), (zt HB.out hw793_3 :), (zt HB.out hw793_4 :), (zt HB.out hw794_0 :), (zt HB.out hw794_1 :), (zt HB.out hw794_2 :), (zt HB.out hw794_3 :), (zt HB.out hw794_4 :)⟩ (fun hHeld => ?_)
          clear hK K
          refine norm_ (a' := ?_) ?_ ?_
          rotate_left
          ·show Act.put _ (some 8) _ = _
           simp only [Act.put, z1, z2, z3, i64_w, i32_w]
           rfl
          refine pure_ (i := 2) (N := some 9) (v := ?_) (a' := ?_) #[true, true, true, false, false, false, false, false, false, false, false, false, false, false, false, false, false, false, false, false, false, false, false, false] rfl rfl (any_of HT_.out (by kernel_rfl)) (fun _ _ _ h => h) (Or.inl ⟨by rfl, ?_⟩) ?_ ?_
          rotate_left
          ·intro w'
           go_simp
           with_reducible rfl
          rotate_left
          ·simp only [Act.put, z1, z2, z3, i64_w, i32_w]
           rfl
          refine pure_ (i := 3) (N := some 10) (v := ?_) (a' := ?_) #[true, true, true, true, false, false, false, false, false, false, false, false, false, false, false, false, false, false, false, false, false, false, false, false] rfl rfl (any_of HT_.out (by kernel_rfl)) (fun _ _ _ h => h) (Or.inl ⟨by rfl, ?_⟩) ?_ ?_
          rotate_left
          ·intro w'
           go_simp
           with_reducible rfl
          rotate_left
          ·simp only [Act.put, z1, z2, z3, i64_w, i32_w]
           rfl
          refine pure_ (i := 4) (N := some 11) (v := ?_) (a' := ?_) #[true, true, true, true, true, false, false, false, false, false, false, false, false, false, false, false, false, false, false, false, false, false, false, false] rfl rfl (any_of HT_.out (by kernel_rfl)) (fun _ _ _ h => h) (Or.inl ⟨by rfl, ?_⟩) ?_ ?_
          rotate_left
          ·intro w'
           go_simp
           with_reducible rfl
          rotate_left
          ·simp only [Act.put, z1, z2, z3, i64_w, i32_w]
           rfl
          refine pure_ (i := 5) (N := some 12) (v := ?_) (a' := ?_) #[true, true, true, true, true, true, false, false, false, false, false, false, false, false, false, false, false, false, false, false, false, false, false, false] rfl rfl (any_of HT_.out (by kernel_rfl)) (fun _ _ _ h => h) (Or.inl ⟨by rfl, ?_⟩) ?_ ?_
          rotate_left
          ·intro w'
           go_simp
           with_reducible rfl
          rotate_left
          ·simp only [Act.put, z1, z2, z3, i64_w, i32_w]
           rfl
          refine pure_ (i := 6) (N := some 13) (v := ?_) (a' := ?_) #[true, true, true, true, true, true, true, false, false, false, false, false, false, false, false, false, false, false, false, false, false, false, false, false] rfl rfl (any_of HT_.out (by kernel_rfl)) (fun _ _ _ h => h) (Or.inl ⟨by rfl, ?_⟩) ?_ ?_
          rotate_left
          ·intro w'
           go_simp
           with_reducible rfl
          rotate_left
          ·simp only [Act.put, z1, z2, z3, i64_w, i32_w]
           rfl
          refine pure_ (i := 7) (N := some 14) (v := ?_) (a' := ?_) #[true, true, true, true, true, true, true, true, false, false, false, false, false, false, false, false, false, false, false, false, false, false, false, false] rfl rfl (any_of HT_.out (by kernel_rfl)) (fun _ _ _ h => h) (Or.inl ⟨by rfl, ?_⟩) ?_ ?_
          rotate_left
          ·intro w'
           go_simp
           with_reducible rfl
          rotate_left
          ·simp only [Act.put, z1, z2, z3, i64_w, i32_w]
           rfl
          refine one_ (i := 8) (N := some 15) #[true, true, true, true, true, true, true, true, true, false, false, false, false, false, false, false, false, false, false, false, false, false, false, false] rfl rfl (one_of HT_.out (by kernel_rfl)) (by decide) (fun K hK => ?_)
          refine goes_ Try.func58 (by kernel_rfl) rfl #[.int .i64 a1, .int .i64 0, .int .i64 (wrap64 ((l0.length : Int) - 2))] (by rfl) rfl rfl (by (try simp only [z6, z7, z8]); first | done | rfl | (simp only [z4, z5]; rfl)) ?_
          with_reducible refine (impl_within.calls a1 0 (wrap64 ((l0.length : Int) - 2)) true _ A5.out).mono ?_
          rintro e w' ⟨rfl, ⟨nd, rfl⟩⟩
          refine ⟨_, rfl, ?_⟩
          refine hK.out _ _ ⟨(zt HB.out hw793_0 :), (zt HB.out hw793_1 :), (zt HB.out hw793_2 :), (zt HB.out hw793_3 :), (zt HB.out hw793_4 :), (zt HB.out hw794_0 :), (zt HB.out hw794_1 :), (zt HB.out hw794_2 :), (zt HB.out hw794_3 :), (zt HB.out hw794_4 :)⟩ (fun hHeld => ?_)
          clear hK K
          refine norm_ (a' := ?_) ?_ ?_
          rotate_left
          ·show Act.put _ (some 15) _ = _
           simp only [Act.put, z1, z2, z3, i64_w, i32_w]
           rfl
          refine pure_ (i := 9) (N := some 16) (v := ?_) (a' := ?_) #[true, true, true, true, true, true, true, true, true, true, false, false, false, false, false, false, false, false, false, false, false, false, false, false] rfl rfl (any_of HT_.out (by kernel_rfl)) (fun _ _ _ h => h) (Or.inl ⟨by rfl, ?_⟩) ?_ ?_
          rotate_left
          ·intro w'
           go_simp
           with_reducible rfl
          rotate_left
          ·simp only [Act.put, z1, z2, z3, i64_w, i32_w]
           rfl
          refine pure_ (i := 10) (N := some 17) (v := ?_) (a' := ?_) #[true, true, true, true, true, true, true, true, true, true, true, false, false, false, false, false, false, false, false, false, false, false, false, false] rfl rfl (any_of HT_.out (by kernel_rfl)) (fun _ _ _ h => h) (Or.inl ⟨by rfl, ?_⟩) ?_ ?_
          rotate_left
          ·intro w'
           go_simp
           with_reducible rfl
          rotate_left
          ·simp only [Act.put, z1, z2, z3, i64_w, i32_w]
           rfl
          refine pure_ (i := 11) (N := some 18) (v := ?_) (a' := ?_) #[true, true, true, true, true, true, true, true, true, true, true, true, false, false, false, false, false, false, false, false, false, false, false, false] rfl rfl (any_of HT_.out (by kernel_rfl)) (fun _ _ _ h => h) (Or.inl ⟨by rfl, ?_⟩) ?_ ?_
          rotate_left
          ·intro w'
           go_simp
           with_reducible rfl
          rotate_left
          ·simp only [Act.put, z1, z2, z3, i64_w, i32_w]
           rfl
          refine pure_ (i := 12) (N := some 19) (v := ?_) (a' := ?_) #[true, true, true, true, true, true, true, true, true, true, true, true, true, false, false, false, false, false, false, false, false, false, false, false] rfl rfl (any_of HT_.out (by kernel_rfl)) (fun _ _ _ h => h) (Or.inl ⟨by rfl, ?_⟩) ?_ ?_
          rotate_left
          ·intro w'
           go_simp
           with_reducible rfl
          rotate_left
          ·simp only [Act.put, z1, z2, z3, i64_w, i32_w]
           rfl
          refine pure_ (i := 13) (N := some 20) (v := ?_) (a' := ?_) #[true, true, true, true, true, true, true, true, true, true, true, true, true, true, false, false, false, false, false, false, false, false, false, false] rfl rfl (any_of HT_.out (by kernel_rfl)) (fun _ _ _ h => h) (Or.inl ⟨by rfl, ?_⟩) ?_ ?_
          rotate_left
          ·intro w'
           go_simp
           with_reducible rfl
          rotate_left
          ·simp only [Act.put, z1, z2, z3, i64_w, i32_w]
           rfl
          refine pure_ (i := 14) (N := some 21) (v := ?_) (a' := ?_) #[true, true, true, true, true, true, true, true, true, true, true, true, true, true, true, false, false, false, false, false, false, false, false, false] rfl rfl (any_of HT_.out (by kernel_rfl)) (fun _ _ _ h => h) (Or.inl ⟨by rfl, ?_⟩) ?_ ?_
          rotate_left
          ·intro w'
           go_simp
           with_reducible rfl
          rotate_left
          ·simp only [Act.put, z1, z2, z3, i64_w, i32_w]
           rfl
          refine pure_ (i := 16) (N := some 23) (v := ?_) (a' := ?_) #[true, true, true, true, true, true, true, true, true, true, true, true, true, true, true, false, true, false, false, false, false, false, false, false] rfl rfl (any_of HT_.out (by kernel_rfl)) (fun _ _ _ h => h) (Or.inl ⟨by rfl, ?_⟩) ?_ ?_
          rotate_left
          ·intro w'
           go_simp
           with_reducible rfl
          rotate_left
          ·simp only [Act.put, z1, z2, z3, i64_w, i32_w]
           rfl
          refine pure_ (i := 17) (N := some 24) (v := ?_) (a' := ?_) #[true, true, true, true, true, true, true, true, true, true, true, true, true, true, true, false, true, true, false, false, false, false, false, false] rfl rfl (any_of HT_.out (by kernel_rfl)) (fun _ _ _ h => h) (Or.inl ⟨by rfl, ?_⟩) ?_ ?_
          rotate_left
          ·intro w'
           go_simp
           with_reducible rfl
          rotate_left
          ·simp only [Act.put, z1, z2, z3, i64_w, i32_w]
           rfl
          refine pure_ (i := 18) (N := some 25) (v := ?_) (a' := ?_) #[true, true, true, true, true, true, true, true, true, true, true, true, true, true, true, false, true, true, true, false, false, false, false, false] rfl rfl (any_of HT_.out (by kernel_rfl)) (fun _ _ _ h => h) (Or.inl ⟨by rfl, ?_⟩) ?_ ?_
          rotate_left
          ·intro w'
           go_simp
           with_reducible rfl
          rotate_left
          ·simp only [Act.put, z1, z2, z3, i64_w, i32_w]
           rfl
          refine pure_ (i := 19) (N := some 26) (v := ?_) (a' := ?_) #[true, true, true, true, true, true, true, true, true, true, true, true, true, true, true, false, true, true, true, true, false, false, false, false] rfl rfl (any_of HT_.out (by kernel_rfl)) (fun _ _ _ h => h) (Or.inl ⟨by rfl, ?_⟩) ?_ ?_
          rotate_left
          ·intro w'
           go_simp
           with_reducible rfl
          rotate_left
          ·simp only [Act.put, z1, z2, z3, i64_w, i32_w]
           rfl
          refine take_ (i := 15) (N := some 22) (v := ?_) (a' := ?_) #[true, true, true, true, true, true, true, true, true, true, true, true, true, true, true, true, true, true, true, true, false, false, false, false] rfl rfl (take_ofW HT_.out HW_.out (by kernel_rfl)) (fun _ _ _ h => h) (Or.inl ⟨by rfl, ?_⟩) hHeld ?_ ?_
          rotate_left
          ·rintro w' ⟨s0, s1, s2, s3, s4, s5, s6, s7, s8, s9⟩
           go_simp
           with_reducible rfl
          rotate_left
          ·simp only [Act.put, z1, z2, z3, i64_w, i32_w]
           rfl
          refine take_ (i := 20) (N := some 27) (v := ?_) (a' := ?_) #[true, true, true, true, true, true, true, true, true, true, true, true, true, true, true, true, true, true, true, true, true, false, false, false] rfl rfl (take_ofW HT_.out HW_.out (by kernel_rfl)) (fun _ _ _ h => h) (Or.inl ⟨by rfl, ?_⟩) hHeld ?_ ?_
          rotate_left
          ·rintro w' ⟨s0, s1, s2, s3, s4, s5, s6, s7, s8, s9⟩
           go_simp
           with_reducible rfl
          rotate_left
          ·simp only [Act.put, z1, z2, z3, i64_w, i32_w]
           rfl
          refine one_ (i := 21) (N := some 28) #[true, true, true, true, true, true, true, true, true, true, true, true, true, true, true, true, true, true, true, true, true, true, false, false] rfl rfl (one_of HT_.out (by kernel_rfl)) (by decide) (fun K hK => ?_)
          refine goes_ Try.func54 (by kernel_rfl) rfl #[.agg #[.string ((rd_T37 l0 a1).f0), .int .i64 ((rd_T37 l0 a1).f1), .int .i64 ((rd_T37 l0 a1).f2), .int .i64 ((rd_T37 l0 a1).f3), .int .i64 ((rd_T37 l0 a1).f4)], .agg #[.string ((rd_T37 l0 (ji9)).f0), .int .i64 ((rd_T37 l0 (ji9)).f1), .int .i64 ((rd_T37 l0 (ji9)).f2), .int .i64 ((rd_T37 l0 (ji9)).f3), .int .i64 ((rd_T37 l0 (ji9)).f4)]] (by rfl) rfl rfl (by (try simp only [z6, z7, z8]); first | done | (simp only [hji9]; rfl) | rfl | (simp only [z4, z5]; rfl)) ?_
          with_reducible refine (impl_independent.calls k ((rd_T37 l0 a1).f0) ((rd_T37 l0 a1).f1) ((rd_T37 l0 a1).f2) ((rd_T37 l0 a1).f3) ((rd_T37 l0 a1).f4) ((rd_T37 l0 (ji9)).f0) ((rd_T37 l0 (ji9)).f1) ((rd_T37 l0 (ji9)).f2) ((rd_T37 l0 (ji9)).f3) ((rd_T37 l0 (ji9)).f4) true _ A12.out).mono ?_
          rintro e w21 ⟨rfl, hb⟩
          refine ⟨_, rfl, ?_⟩
          have n0_ := zK (zL (by repeat (first | (with_reducible first | exact HB.out | apply zA | apply zB | apply zC) | exact HB.out)) hb)
          clear HB
          have HB := n0_
          clear n0_
          (try clear hb)
          (try clear hb2)
          (try clear hk)
          (try clear hi)
          refine hK.out _ _ ⟨(zt HB.out hw793_0 :), (zt HB.out hw793_1 :), (zt HB.out hw793_2 :), (zt HB.out hw793_3 :), (zt HB.out hw793_4 :), (zt HB.out hw794_0 :), (zt HB.out hw794_1 :), (zt HB.out hw794_2 :), (zt HB.out hw794_3 :), (zt HB.out hw794_4 :)⟩ (fun hHeld => ?_)
          clear hK K
          refine norm_ (a' := ?_) ?_ ?_
          rotate_left
          ·show Act.put _ (some 28) _ = _
           simp only [Act.put, z1, z2, z3, i64_w, i32_w]
           rfl
          refine pure_ (i := 22) (N := some 29) (v := ?_) (a' := ?_) #[true, true, true, true, true, true, true, true, true, true, true, true, true, true, true, true, true, true, true, true, true, true, true, false] rfl rfl (any_of HT_.out (by kernel_rfl)) (fun _ _ _ h => h) (Or.inl ⟨by rfl, ?_⟩) ?_ ?_
          rotate_left
          ·intro w'
           go_simp
           with_reducible rfl
          rotate_left
          ·simp only [Act.put, z1, z2, z3, i64_w, i32_w]
           rfl
          refine pure_ (i := 23) (N := some 30) (v := ?_) (a' := ?_) #[true, true, true, true, true, true, true, true, true, true, true, true, true, true, true, true, true, true, true, true, true, true, true, true] rfl rfl (any_of HT_.out (by kernel_rfl)) (fun _ _ _ h => h) (Or.inl ⟨by rfl, ?_⟩) ?_ ?_
          rotate_left
          ·intro w'
           go_simp
           with_reducible rfl
          rotate_left
          ·simp only [Act.put, z1, z2, z3, i64_w, i32_w]
           rfl
          refine done_ (done_of HT_.out (by kernel_rfl)) ?_
          try go_wp2_with (first | ((with_reducible refine gate_callee (f := 59) rfl ?_); refine goesL_ (some 32) rfl rfl Try.func59 (by kernel_rfl) rfl #[.slice (some ad793) l0.length c0] rfl (by (try simp only [z6, z7, z8]); first | done | rfl | (simp only [z4, z5]; rfl)) ?_; (with_reducible refine (impl_Instr_59.calls _ _ l0 t796 _ ?side1 ?side2 A14.out).mono ?_); (case side1 => repeat (first | exact (Kd.C_below HR0.out HB.out) | (with_reducible refine Kd.C_alloc ?_ _) | (with_reducible refine Kd.C_drewN ?_ _) | (with_reducible refine Kd.C_drew ?_))); (case side2 => exact HC0.out); rintro e w22 ⟨v797, rfl, ho0, hb⟩; refine ⟨_, rfl, ?_⟩; have n0_ := zK (Kd.R_lower ho0 (zN (by repeat (first | (with_reducible first | exact HB.out | apply zA | apply zB | apply zC) | exact HB.out)))); have n1_ := zK (zL (by repeat (first | (with_reducible first | exact HB.out | apply zA | apply zB | apply zC) | exact HB.out)) hb); clear HB; have HO798 := n0_; have HB := n1_; clear n0_ n1_; (try clear hb); (try clear hb2); (try clear hk); (try clear hi); (try clear ho0)))
          have n0_ := zK (Kd.R_drew HO798.out)
          have n1_ := zK (zC HB.out)
          clear HO798
          clear HB
          have HO798 := n0_
          have HB := n1_
          clear n0_ n1_
          obtain ⟨Ao24, co24, eo24⟩ := Kd.R_slice HO798.out
          (first | subst eo24 | (injection eo24 with f1_ f2_ f3_; have f4_ := f1_.symm; have f5_ := f3_.symm; clear f1_ f2_ f3_; subst f4_; subst f5_))
          have p799 : 0 ≤ ((ji9) : Int) := zo
          have q799 : (ji9) < (t796.length : Int) := zo
          obtain ⟨ad799, e799, hx799_0, hx799_1, hx799_2, hx799_3, hx799_4⟩ := at_T37 (Kd.R_reads' HO798.out).2.2 (ji9) p799 q799
          cases e799
          replace p799 := eq_true p799
          replace q799 := eq_true q799
          have p800 : 0 ≤ (a1 : Int) := zo
          have q800 : a1 < (t796.length : Int) := zo
          obtain ⟨ad800, e800, hx800_0, hx800_1, hx800_2, hx800_3, hx800_4⟩ := at_T37 (Kd.R_reads' HO798.out).2.2 a1 p800 q800
          obtain rfl : ad799 = ad800 := (by injection e800)
          replace p800 := eq_true p800
          replace q800 := eq_true q800
          have p17 : 0 ≤ (a1 : Int) := zo
          have q17 : (a1 : Int) < ((t796.length : Int) : Int) := zo
          obtain ⟨go17, co17, eo17, gb17, gl17, cl17, HG17⟩ := Kd.R_form HO798.out (by omega)
          (first | cases eo17 | (injection eo17 with ea_ en_ ec_; (first | subst ea_ | (injection ea_ with ea_; subst ea_)); subst ec_; clear en_))
          have GB17 := zK gb17
          have GG17 := zK HG17
          clear gb17 gl17 HG17
          (first | simp only [add_plain] at hx799_0 | skip)
          (first | simp only [add_plain] at hx799_1 | skip)
          (first | simp only [add_plain] at hx799_2 | skip)
          (first | simp only [add_plain] at hx799_3 | skip)
          (first | simp only [add_plain] at hx799_4 | skip)
          (first | simp only [add_plain] at hx800_0 | skip)
          (first | simp only [add_plain] at hx800_1 | skip)
          (first | simp only [add_plain] at hx800_2 | skip)
          (first | simp only [add_plain] at hx800_3 | skip)
          (first | simp only [add_plain] at hx800_4 | skip)
          obtain ⟨ce17, hcl17, hM17, hcc17, hfr17⟩ := Kd.R_elem HO798.out z37 (a1 : Int) p17 q17
          obtain rfl := k37_openM hM17
          have hx17_0 : World.cell? _ ⟨go17, (a1 : Int).toNat * 5, none⟩ = some (.string ((rd_T37 t796 a1).f0)) := hcc17 0 _ rfl
          have hx17_1 : World.cell? _ ⟨go17, (a1 : Int).toNat * 5 + 1, none⟩ = some (.int .i64 ((rd_T37 t796 a1).f1)) := hcc17 1 _ rfl
          have hx17_2 : World.cell? _ ⟨go17, (a1 : Int).toNat * 5 + 2, none⟩ = some (.int .i64 ((rd_T37 t796 a1).f2)) := hcc17 2 _ rfl
          have hx17_3 : World.cell? _ ⟨go17, (a1 : Int).toNat * 5 + 3, none⟩ = some (.int .i64 ((rd_T37 t796 a1).f3)) := hcc17 3 _ rfl
          have hx17_4 : World.cell? _ ⟨go17, (a1 : Int).toNat * 5 + 4, none⟩ = some (.int .i64 ((rd_T37 t796 a1).f4)) := hcc17 4 _ rfl
          have hf17_0 : World.frozen? _ ⟨go17, (a1 : Int).toNat * 5, none⟩ = false := hfr17 0
          have hf17_1 : World.frozen? _ ⟨go17, (a1 : Int).toNat * 5 + 1, none⟩ = false := hfr17 1
          have hf17_2 : World.frozen? _ ⟨go17, (a1 : Int).toNat * 5 + 2, none⟩ = false := hfr17 2
          have hf17_3 : World.frozen? _ ⟨go17, (a1 : Int).toNat * 5 + 3, none⟩ = false := hfr17 3
          have hf17_4 : World.frozen? _ ⟨go17, (a1 : Int).toNat * 5 + 4, none⟩ = false := hfr17 4
          clear hcl17 hcc17 hfr17 hM17
          replace p17 := eq_true p17
          replace q17 := eq_true q17
          obtain ⟨ce25, hcl25, hM25, hcc25, hfr25⟩ := Kd.R_elem HO798.out z37 (a1 : Int) (zo) (by have h_ : (a1 : Int) < ((t796.length : Int) : Int) := zo; first | exact h_ | (have e_ := (Kd.R_reads' HO798.out).1; omega) | simpa using h_)
          obtain rfl := k37_openM hM25
          have HP25 := (Kd.R_seg HO798.out (a1 : Int) (zo) (by have h_ : (a1 : Int) < ((t796.length : Int) : Int) := zo; first | exact h_ | (have e_ := (Kd.R_reads' HO798.out).1; omega) | simpa using h_) (seg := [.string ((rd_T37 t796 (ji9)).f0), .int .i64 ((rd_T37 t796 (ji9)).f1), .int .i64 ((rd_T37 t796 (ji9)).f2), .int .i64 ((rd_T37 t796 (ji9)).f3), .int .i64 ((rd_T37 t796 (ji9)).f4)]) (j := 0) hcl25 hcc25 (show 5 ≤ 5 from by decide) (x' := (⟨(rd_T37 t796 (ji9)).f0, (rd_T37 t796 (ji9)).f1, (rd_T37 t796 (ji9)).f2, (rd_T37 t796 (ji9)).f3, (rd_T37 t796 (ji9)).f4⟩ : S37)) (k37_mkM _ _ _ (⟨(rd_T37 t796 (ji9)).f0, (rd_T37 t796 (ji9)).f1, (rd_T37 t796 (ji9)).f2, (rd_T37 t796 (ji9)).f3, (rd_T37 t796 (ji9)).f4⟩ : S37) ) (fun _ hk => hk)).1
          rw [← Ny801.out] at HP25
          have HQ25 := zK HP25
          clear hcl25 hcc25 hfr25 hM25 HP25
          have p18 : 0 ≤ ((ji9) : Int) := zo
          have q18 : ((ji9) : Int) < ((t796.length : Int) : Int) := zo
          obtain ⟨ce18, hcl18, hM18, hcc18, hfr18⟩ := Kd.R_elem HQ25.out z37 ((ji9) : Int) p18 q18
          obtain rfl := k37_openM hM18
          have hx18_0 : World.cell? _ ⟨go17, ((ji9) : Int).toNat * 5, none⟩ = some (.string ((rd_T37 y801 (ji9)).f0)) := hcc18 0 _ rfl
          have hx18_1 : World.cell? _ ⟨go17, ((ji9) : Int).toNat * 5 + 1, none⟩ = some (.int .i64 ((rd_T37 y801 (ji9)).f1)) := hcc18 1 _ rfl
          have hx18_2 : World.cell? _ ⟨go17, ((ji9) : Int).toNat * 5 + 2, none⟩ = some (.int .i64 ((rd_T37 y801 (ji9)).f2)) := hcc18 2 _ rfl
          have hx18_3 : World.cell? _ ⟨go17, ((ji9) : Int).toNat * 5 + 3, none⟩ = some (.int .i64 ((rd_T37 y801 (ji9)).f3)) := hcc18 3 _ rfl
          have hx18_4 : World.cell? _ ⟨go17, ((ji9) : Int).toNat * 5 + 4, none⟩ = some (.int .i64 ((rd_T37 y801 (ji9)).f4)) := hcc18 4 _ rfl
          have hf18_0 : World.frozen? _ ⟨go17, ((ji9) : Int).toNat * 5, none⟩ = false := hfr18 0
          have hf18_1 : World.frozen? _ ⟨go17, ((ji9) : Int).toNat * 5 + 1, none⟩ = false := hfr18 1
          have hf18_2 : World.frozen? _ ⟨go17, ((ji9) : Int).toNat * 5 + 2, none⟩ = false := hfr18 2
          have hf18_3 : World.frozen? _ ⟨go17, ((ji9) : Int).toNat * 5 + 3, none⟩ = false := hfr18 3
          have hf18_4 : World.frozen? _ ⟨go17, ((ji9) : Int).toNat * 5 + 4, none⟩ = false := hfr18 4
          clear hcl18 hcc18 hfr18 hM18
          replace p18 := eq_true p18
          replace q18 := eq_true q18
          obtain ⟨ce26, hcl26, hM26, hcc26, hfr26⟩ := Kd.R_elem HQ25.out z37 ((ji9) : Int) (zo) (by have h_ : ((ji9) : Int) < ((t796.length : Int) : Int) := zo; first | exact h_ | (have e_ := (Kd.R_reads' HO798.out).1; omega) | simpa using h_)
          obtain rfl := k37_openM hM26
          have HP26 := (Kd.R_seg HQ25.out ((ji9) : Int) (zo) (by have h_ : ((ji9) : Int) < ((t796.length : Int) : Int) := zo; first | exact h_ | (have e_ := (Kd.R_reads' HO798.out).1; omega) | simpa using h_) (seg := [.string ((rd_T37 t796 a1).f0), .int .i64 ((rd_T37 t796 a1).f1), .int .i64 ((rd_T37 t796 a1).f2), .int .i64 ((rd_T37 t796 a1).f3), .int .i64 ((rd_T37 t796 a1).f4)]) (j := 0) hcl26 hcc26 (show 5 ≤ 5 from by decide) (x' := (⟨(rd_T37 t796 a1).f0, (rd_T37 t796 a1).f1, (rd_T37 t796 a1).f2, (rd_T37 t796 a1).f3, (rd_T37 t796 a1).f4⟩ : S37)) (k37_mkM _ _ _ (⟨(rd_T37 t796 a1).f0, (rd_T37 t796 a1).f1, (rd_T37 t796 a1).f2, (rd_T37 t796 a1).f3, (rd_T37 t796 a1).f4⟩ : S37) ) (fun _ hk => hk)).1
          rw [← Ny802.out] at HP26
          have HQ26 := zK HP26
          clear hcl26 hcc26 hfr26 hM26 HP26
          refine start_ (n := 18) (S := fun w' => w'.cell? ⟨go17, ((ji9)).toNat * 5, none⟩ = some (.string ((rd_T37 t796 (ji9)).f0)) ∧ w'.cell? ⟨go17, ((ji9)).toNat * 5 + 1, none⟩ = some (.int .i64 ((rd_T37 t796 (ji9)).f1)) ∧ w'.cell? ⟨go17, ((ji9)).toNat * 5 + 2, none⟩ = some (.int .i64 ((rd_T37 t796 (ji9)).f2)) ∧ w'.cell? ⟨go17, ((ji9)).toNat * 5 + 3, none⟩ = some (.int .i64 ((rd_T37 t796 (ji9)).f3)) ∧ w'.cell? ⟨go17, ((ji9)).toNat * 5 + 4, none⟩ = some (.int .i64 ((rd_T37 t796 (ji9)).f4)) ∧ w'.cell? ⟨go17, ((a1).toNat * 5), none⟩ = some (.string ((rd_T37 t796 a1).f0)) ∧ w'.cell? ⟨go17, ((a1).toNat * 5) + 1, none⟩ = some (.int .i64 ((rd_T37 t796 a1).f1)) ∧ w'.cell? ⟨go17, ((a1).toNat * 5) + 2, none⟩ = some (.int .i64 ((rd_T37 t796 a1).f2)) ∧ w'.cell? ⟨go17, ((a1).toNat * 5) + 3, none⟩ = some (.int .i64 ((rd_T37 t796 a1).f3)) ∧ w'.cell? ⟨go17, ((a1).toNat * 5) + 4, none⟩ = some (.int .i64 ((rd_T37 t796 a1).f4))) (ds := [15, 17]) #[false, false, false, false, false, false, false, false, false, false, false, false, false, false, false, false, false, false] (by kernel_rfl) rfl rfl ⟨hx799_0, hx799_1, hx799_2, hx799_3, hx799_4, hx800_0, hx800_1, hx800_2, hx800_3, hx800_4⟩ (fun hHeld => ?_); refine with_tabW impl_SwapNeighbours.tab4 impl_SwapNeighbours.bits4 (fun HT_ HW_ => ?_)
          generalize w22.drew = w23 at HO798 HB GG17 HQ25 HQ26 hf17_0 hf17_1 hf17_2 hf17_3 hf17_4 hf18_0 hf18_1 hf18_2 hf18_3 hf18_4 hx17_0 hx17_1 hx17_2 hx17_3 hx17_4 hx18_0 hx18_1 hx18_2 hx18_3 hx18_4 hx799_0 hx799_1 hx799_2 hx799_3 hx799_4 hx800_0 hx800_1 hx800_2 hx800_3 hx800_4 hHeld ⊢
          refine pure_ (i := 0) (N := some 33) (v := ?_) (a' := ?_) #[true, false, false, false, false, false, false, false, false, false, false, false, false, false, false, false, false, false] rfl rfl (any_of HT_.out (by kernel_rfl)) (fun _ _ _ h => h) (Or.inl ⟨by rfl, ?_⟩) ?_ ?_
          rotate_left
          ·intro w'
           go_simp
           with_reducible rfl
          rotate_left
          ·simp only [Act.put, z1, z2, z3, i64_w, i32_w]
           rfl
          refine pure_ (i := 1) (N := some 34) (v := ?_) (a' := ?_) #[true, true, false, false, false, false, false, false, false, false, false, false, false, false, false, false, false, false] rfl rfl (any_of HT_.out (by kernel_rfl)) (fun _ _ _ h => h) (Or.inl ⟨by rfl, ?_⟩) ?_ ?_
          rotate_left
          ·intro w'
           go_simp
           with_reducible rfl
          rotate_left
          ·simp only [Act.put, z1, z2, z3, i64_w, i32_w]
           rfl
          refine pure_ (i := 2) (N := some 35) (v := ?_) (a' := ?_) #[true, true, true, false, false, false, false, false, false, false, false, false, false, false, false, false, false, false] rfl rfl (any_of HT_.out (by kernel_rfl)) (fun _ _ _ h => h) (Or.inl ⟨by rfl, ?_⟩) ?_ ?_
          rotate_left
          ·intro w'
           go_simp
           with_reducible rfl
          rotate_left
          ·simp only [Act.put, z1, z2, z3, i64_w, i32_w]
           rfl
          refine pure_ (i := 3) (N := some 36) (v := ?_) (a' := ?_) #[true, true, true, true, false, false, false, false, false, false, false, false, false, false, false, false, false, false] rfl rfl (any_of HT_.out (by kernel_rfl)) (fun _ _ _ h => h) (Or.inl ⟨by rfl, ?_⟩) ?_ ?_
          rotate_left
          ·intro w'
           go_simp
           with_reducible rfl
          rotate_left
          ·simp only [Act.put, z1, z2, z3, i64_w, i32_w]
           rfl
          refine pure_ (i := 4) (N := some 37) (v := ?_) (a' := ?_) #[true, true, true, true, true, false, false, false, false, false, false, false, false, false, false, false, false, false] rfl rfl (any_of HT_.out (by kernel_rfl)) (fun _ _ _ h => h) (Or.inl ⟨by rfl, ?_⟩) ?_ ?_
          rotate_left
          ·intro w'
           go_simp
           with_reducible rfl
          rotate_left
          ·simp only [Act.put, z1, z2, z3, i64_w, i32_w]
           rfl
          refine pure_ (i := 5) (N := some 38) (v := ?_) (a' := ?_) #[true, true, true, true, true, true, false, false, false, false, false, false, false, false, false, false, false, false] rfl rfl (any_of HT_.out (by kernel_rfl)) (fun _ _ _ h => h) (Or.inl ⟨by rfl, ?_⟩) ?_ ?_
          rotate_left
          ·intro w'
           go_simp
           with_reducible rfl
          rotate_left
          ·simp only [Act.put, z1, z2, z3, i64_w, i32_w]
           rfl
          refine pure_ (i := 6) (N := some 39) (v := ?_) (a' := ?_) #[true, true, true, true, true, true, true, false, false, false, false, false, false, false, false, false, false, false] rfl rfl (any_of HT_.out (by kernel_rfl)) (fun _ _ _ h => h) (Or.inl ⟨by rfl, ?_⟩) ?_ ?_
          rotate_left
          ·intro w'
           go_simp
           with_reducible rfl
          rotate_left
          ·simp only [Act.put, z1, z2, z3, i64_w, i32_w]
           rfl
          refine pure_ (i := 7) (N := some 40) (v := ?_) (a' := ?_) #[true, true, true, true, true, true, true, true, false, false, false, false, false, false, false, false, false, false] rfl rfl (any_of HT_.out (by kernel_rfl)) (fun _ _ _ h => h) (Or.inl ⟨by rfl, ?_⟩) ?_ ?_
          rotate_left
          ·intro w'
           go_simp
           with_reducible rfl
          rotate_left
          ·simp only [Act.put, z1, z2, z3, i64_w, i32_w]
           rfl
          refine pure_ (i := 8) (N := some 41) (v := ?_) (a' := ?_) #[true, true, true, true, true, true, true, true, true, false, false, false, false, false, false, false, false, false] rfl rfl (any_of HT_.out (by kernel_rfl)) (fun _ _ _ h => h) (Or.inl ⟨by rfl, ?_⟩) ?_ ?_
          rotate_left
          ·intro w'
           go_simp
           with_reducible rfl
          rotate_left
          ·simp only [Act.put, z1, z2, z3, i64_w, i32_w]
           rfl
          refine pure_ (i := 10) (N := some 43) (v := ?_) (a' := ?_) #[true, true, true, true, true, true, true, true, true, false, true, false, false, false, false, false, false, false] rfl rfl (any_of HT_.out (by kernel_rfl)) (fun _ _ _ h => h) (Or.inl ⟨by rfl, ?_⟩) ?_ ?_
          rotate_left
          ·intro w'
           go_simp
           with_reducible rfl
          rotate_left
          ·simp only [Act.put, z1, z2, z3, i64_w, i32_w]
           rfl
          refine pure_ (i := 11) (N := some 44) (v := ?_) (a' := ?_) #[true, true, true, true, true, true, true, true, true, false, true, true, false, false, false, false, false, false] rfl rfl (any_of HT_.out (by kernel_rfl)) (fun _ _ _ h => h) (Or.inl ⟨by rfl, ?_⟩) ?_ ?_
          rotate_left
          ·intro w'
           go_simp
           with_reducible rfl
          rotate_left
          ·simp only [Act.put, z1, z2, z3, i64_w, i32_w]
           rfl
          refine pure_ (i := 12) (N := some 45) (v := ?_) (a' := ?_) #[true, true, true, true, true, true, true, true, true, false, true, true, true, false, false, false, false, false] rfl rfl (any_of HT_.out (by kernel_rfl)) (fun _ _ _ h => h) (Or.inl ⟨by rfl, ?_⟩) ?_ ?_
          rotate_left
          ·intro w'
           go_simp
           with_reducible rfl
          rotate_left
          ·simp only [Act.put, z1, z2, z3, i64_w, i32_w]
           rfl
          refine take_ (i := 9) (N := some 42) (v := ?_) (a' := ?_) #[true, true, true, true, true, true, true, true, true, true, true, true, true, false, false, false, false, false] rfl rfl (take_ofW HT_.out HW_.out (by kernel_rfl)) (fun _ _ _ h => h) (Or.inl ⟨by rfl, ?_⟩) hHeld ?_ ?_
          rotate_left
          ·rintro w' ⟨s0, s1, s2, s3, s4, s5, s6, s7, s8, s9⟩
           go_simp
           with_reducible rfl
          rotate_left
          ·simp only [Act.put, z1, z2, z3, i64_w, i32_w]
           rfl
          refine take_ (i := 13) (N := some 46) (v := ?_) (a' := ?_) #[true, true, true, true, true, true, true, true, true, true, true, true, true, true, false, false, false, false] rfl rfl (take_ofW HT_.out HW_.out (by kernel_rfl)) (fun _ _ _ h => h) (Or.inl ⟨by rfl, ?_⟩) hHeld ?_ ?_
          rotate_left
          ·rintro w' ⟨s0, s1, s2, s3, s4, s5, s6, s7, s8, s9⟩
           go_simp
           with_reducible rfl
          rotate_left
          ·simp only [Act.put, z1, z2, z3, i64_w, i32_w]
           rfl
          refine pure_ (i := 14) (N := some 47) (v := ?_) (a' := ?_) #[true, true, true, true, true, true, true, true, true, true, true, true, true, true, true, false, false, false] rfl rfl (any_of HT_.out (by kernel_rfl)) (fun _ _ _ h => h) (Or.inl ⟨by rfl, ?_⟩) ?_ ?_
          rotate_left
          ·intro w'
           go_simp
           with_reducible rfl
          rotate_left
          ·simp only [Act.put, z1, z2, z3, i64_w, i32_w]
           rfl
          refine last_ (i := 15) (N := none) #[true, true, true, true, true, true, true, true, true, true, true, true, true, true, true, true, false, false] rfl rfl (one_of HT_.out (by kernel_rfl)) (by decide) (fun K hK => ?_)
          refine skip_ (w1 := ?_) (by rfl) rfl ?_ ?_
          rotate_left
          ·go_simp
           rfl
          refine hK.out _ _ ?_
          clear hK K
          refine pure_ (i := 16) (N := some 48) (v := ?_) (a' := ?_) #[true, true, true, true, true, true, true, true, true, true, true, true, true, true, true, true, true, false] rfl rfl (any_of HT_.out (by kernel_rfl)) (fun _ _ _ h => h) (Or.inl ⟨by rfl, ?_⟩) ?_ ?_
          rotate_left
          ·intro w'
           go_simp
           with_reducible rfl
          rotate_left
          ·simp only [Act.put, z1, z2, z3, i64_w, i32_w]
           rfl
          have hf19_0 : World.frozen? w23 ⟨go17, ji9.toNat * 5, none⟩ = false := (World.frozen?_setCells _ _ _ _ _).symm.trans hf18_0
          have hf19_1 : World.frozen? w23 ⟨go17, ji9.toNat * 5 + 1, none⟩ = false := (World.frozen?_setCells _ _ _ _ _).symm.trans hf18_1
          have hf19_2 : World.frozen? w23 ⟨go17, ji9.toNat * 5 + 2, none⟩ = false := (World.frozen?_setCells _ _ _ _ _).symm.trans hf18_2
          have hf19_3 : World.frozen? w23 ⟨go17, ji9.toNat * 5 + 3, none⟩ = false := (World.frozen?_setCells _ _ _ _ _).symm.trans hf18_3
          have hf19_4 : World.frozen? w23 ⟨go17, ji9.toNat * 5 + 4, none⟩ = false := (World.frozen?_setCells _ _ _ _ _).symm.trans hf18_4
          have hne1_ : (ji9.toNat * 5 = a1.toNat * 5) = False := eq_false (next_ne (of_eq_true p799) (of_eq_true p800) hji9)
          have hne2_ : (a1.toNat * 5 = ji9.toNat * 5) = False := eq_false (fun h => of_eq_false hne1_ h.symm)
          have hne3_ : (ji9.toNat = a1.toNat) = False := eq_false (fun h => of_eq_false hne1_ (congrArg (· * 5) h))
          have hne4_ : (a1.toNat = ji9.toNat) = False := eq_false (fun h => of_eq_false hne3_ h.symm)
          refine last_ (i := 17) (N := none) #[true, true, true, true, true, true, true, true, true, true, true, true, true, true, true, true, true, true] rfl rfl (one_of HT_.out (by kernel_rfl)) (by decide) (fun K hK => ?_)
          refine skip_ (w1 := ?_) (by rfl) rfl ?_ ?_
          rotate_left
          ·go_simp
           rfl
          refine hK.out _ _ ?_
          clear hK K
          refine done_ (done_of HT_.out (by kernel_rfl)) ?_
          try go_wp2
          go_ret2
          exact ⟨_, by first | rfl | (simp [errW_none, errW_some] <;> rfl) | (simp only [← hji9]; first | rfl | (simp [errW_none, errW_some] <;> rfl)) | (simp [*, errW_none, errW_some] <;> rfl), by (with_reducible repeat (first | apply Kd.R_alloc | apply Kd.R_drewN | apply Kd.R_drew)); exact HQ26.out, by repeat (first | (with_reducible first | exact HB.out | apply zA | apply zB | apply zC | refine zD ?_ GB17.out | refine zD ?_ GB17.out | refine zD ?_ GB17.out | refine zD ?_ GB17.out | refine zD ?_ GB17.out | refine zD ?_ GB17.out | refine zD ?_ GB17.out | refine zD ?_ GB17.out | refine zD ?_ GB17.out | refine zD ?_ GB17.out) | exact HB.out)⟩
         ·rw [if_neg c16] at H
          exact absurd H (by simp)
        ·rw [if_neg c15] at H
         exact absurd H (by simp)
       ·replace c13 := Bool.eq_false_iff.mpr c13
        subst c13
        rw [if_neg (show ¬ (false = true) by decide)] at H
        simp only [Option.some.injEq, Prod.mk.injEq] at H
        obtain ⟨rfl, rfl⟩ := H
        go_enter Try.func28, Try.ntmps28
        try go_wp2
        have n0_ := zK (zC HB.out)
        clear HB
        have HB := n0_
        clear n0_
        have p793 : 0 ≤ (a1 : Int) := zo
        have q793 : a1 < (l0.length : Int) := zo
        obtain ⟨ad793, e793, hx793_0, hx793_1, hx793_2, hx793_3, hx793_4⟩ := at_T37 HR0.out a1 p793 q793
        have hw793_4 := hx793_4
        have hw793_3 := hx793_3
        have hw793_2 := hx793_2
        have hw793_1 := hx793_1
        have hw793_0 := hx793_0
        cases e793
        replace hx793_0 := zt HB.out hx793_0
        replace hx793_1 := zt HB.out hx793_1
        replace hx793_2 := zt HB.out hx793_2
        replace hx793_3 := zt HB.out hx793_3
        replace hx793_4 := zt HB.out hx793_4
        replace p793 := eq_true p793
        replace q793 := eq_true q793
        have p794 : 0 ≤ ((ji9) : Int) := zo
        have q794 : (ji9) < (l0.length : Int) := zo
        obtain ⟨ad794, e794, hx794_0, hx794_1, hx794_2, hx794_3, hx794_4⟩ := at_T37 HR0.out (ji9) p794 q794
        have hw794_4 := hx794_4
        have hw794_3 := hx794_3
        have hw794_2 := hx794_2
        have hw794_1 := hx794_1
        have hw794_0 := hx794_0
        obtain rfl : ad793 = ad794 := (by injection e794)
        replace hx794_0 := zt HB.out hx794_0
        replace hx794_1 := zt HB.out hx794_1
        replace hx794_2 := zt HB.out hx794_2
        replace hx794_3 := zt HB.out hx794_3
        replace hx794_4 := zt HB.out hx794_4
        replace p794 := eq_true p794
        replace q794 := eq_true q794
        refine start_ (n := 24) (S := fun w' => w'.cell? (ad793.add ((a1).toNat * 5)) = some (.string ((rd_T37 l0 a1).f0)) ∧ w'.cell? ⟨(ad793.add ((a1).toNat * 5)).block, (ad793.add ((a1).toNat * 5)).off + 1, none⟩ = some (.int .i64 ((rd_T37 l0 a1).f1)) ∧ w'.cell? ⟨(ad793.add ((a1).toNat * 5)).block, (ad793.add ((a1).toNat * 5)).off + 2, none⟩ = some (.int .i64 ((rd_T37 l0 a1).f2)) ∧ w'.cell? ⟨(ad793.add ((a1).toNat * 5)).block, (ad793.add ((a1).toNat * 5)).off + 3, none⟩ = some (.int .i64 ((rd_T37 l0 a1).f3)) ∧ w'.cell? ⟨(ad793.add ((a1).toNat * 5)).block, (ad793.add ((a1).toNat * 5)).off + 4, none⟩ = some (.int .i64 ((rd_T37 l0 a1).f4)) ∧ w'.cell? (ad793.add (((ji9)).toNat * 5)) = some (.string ((rd_T37 l0 (ji9)).f0)) ∧ w'.cell? ⟨(ad793.add (((ji9)).toNat * 5)).block, (ad793.add (((ji9)).toNat * 5)).off + 1, none⟩ = some (.int .i64 ((rd_T37 l0 (ji9)).f1)) ∧ w'.cell? ⟨(ad793.add (((ji9)).toNat * 5)).block, (ad793.add (((ji9)).toNat * 5)).off + 2, none⟩ = some (.int .i64 ((rd_T37 l0 (ji9)).f2)) ∧ w'.cell? ⟨(ad793.add (((ji9)).toNat * 5)).block, (ad793.add (((ji9)).toNat * 5)).off + 3, none⟩ = some (.int .i64 ((rd_T37 l0 (ji9)).f3)) ∧ w'.cell? ⟨(ad793.add (((ji9)).toNat * 5)).block, (ad793.add (((ji9)).toNat * 5)).off + 4, none⟩ = some (.int .i64 ((rd_T37 l0 (ji9)).f4))) (ds := []) #[false, false, false, false, false, false, false, false, false, false, false, false, false, false, false, false, false, false, false, false, false, false, false, false] (by kernel_rfl) rfl rfl ⟨(zt HB.out hw793_0), (zt HB.out hw793_1), (zt HB.out hw793_2), (zt HB.out hw793_3), (zt HB.out hw793_4), (zt HB.out hw794_0), (zt HB.out hw794_1), (zt HB.out hw794_2), (zt HB.out hw794_3), (zt HB.out hw794_4)⟩ (fun hHeld => ?_); refine with_tabW impl_SwapNeighbours.tab1 impl_SwapNeighbours.bits1 (fun HT_ HW_ => ?_)
        generalize w.drew = w27 at HB hx793_0 hx793_1 hx793_2 hx793_3 hx793_4 hx794_0 hx794_1 hx794_2 hx794_3 hx794_4 hHeld ⊢
        refine pure_ (i := 0) (N := some 7) (v := ?_) (a' := ?_) #[true, false, false, false, false, false, false, false, false, false, false, false, false, false, false, false, false, false, false, false, false, false, false, false] rfl rfl (any_of HT_.out (by kernel_rfl)) (fun _ _ _ h => h) (Or.inl ⟨by rfl, ?_⟩) ?_ ?_
        rotate_left
        ·intro w'
         go_simp
         with_reducible rfl
        rotate_left
        ·simp only [Act.put, z1, z2, z3, i64_w, i32_w]
         rfl
        refine one_ (i := 1) (N := some 8) #[true, true, false, false, false, false, false, false, false, false, false, false, false, false, false, false, false, false, false, false, false, false, false, false] rfl rfl (one_of HT_.out (by kernel_rfl)) (by decide) (fun K hK => ?_)
        refine goes_ Try.func57 (by kernel_rfl) rfl #[.slice (some ad793) l0.length c0] (by rfl) rfl rfl (by (try simp only [z6, z7, z8]); first | done | rfl | (simp only [z4, z5]; rfl)) ?_
        with_reducible refine (impl_IsCode.calls k _ _ l0 true _ ?side1 ?side2 A3.out).mono ?_
        (case side1 => repeat (first | exact (Kd.C_below HR0.out HB.out) | (with_reducible refine Kd.C_alloc ?_ _) | (with_reducible refine Kd.C_drewN ?_ _) | (with_reducible refine Kd.C_drew ?_)))
        (case side2 => exact HC0.out)
        rintro e w28 ⟨rfl, hb⟩
        refine ⟨_, rfl, ?_⟩
        have n0_ := zK (zL (by repeat (first | (with_reducible first | exact HB.out | apply zA | apply zB | apply zC) | exact HB.out)) hb)
        clear HB
        have HB := n0_
        clear n0_
        (try clear hb)
        (try clear hb2)
        (try clear hk)
        (try clear hi)
        refine hK.out _ _ ⟨(zt HB.out hw793_0 :), (zt HB.out hw793_1 :), (zt HB.out hw793_2 :), (zt HB.out hw793_3 :), (zt HB.out hw793_4 :), (zt HB.out hw794_0 :), (zt HB.out hw794_1 :), (zt HB.out hw794_2 :), (zt HB.out hw794_3 :), (zt HB.out hw794_4 :)⟩ (fun hHeld => ?_)
        clear hK K
        refine norm_ (a' := ?_) ?_ ?_
        rotate_left
        ·show Act.put _ (some 8) _ = _
         simp only [Act.put, z1, z2, z3, i64_w, i32_w]
         rfl
        refine pure_ (i := 2) (N := some 9) (v := ?_) (a' := ?_) #[true, true, true, false, false, false, false, false, false, false, false, false, false, false, false, false, false, false, false, false, false, false, false, false] rfl rfl (any_of HT_.out (by kernel_rfl)) (fun _ _ _ h => h) (Or.inl ⟨by rfl, ?_⟩) ?_ ?_
        rotate_left
        ·intro w'
         go_simp
         with_reducible rfl
        rotate_left
        ·simp only [Act.put, z1, z2, z3, i64_w, i32_w]
         rfl
        refine pure_ (i := 3) (N := some 10) (v := ?_) (a' := ?_) #[true, true, true, true, false, false, false, false, false, false, false, false, false, false, false, false, false, false, false, false, false, false, false, false] rfl rfl (any_of HT_.out (by kernel_rfl)) (fun _ _ _ h => h) (Or.inl ⟨by rfl, ?_⟩) ?_ ?_
        rotate_left
        ·intro w'
         go_simp
         with_reducible rfl
        rotate_left
        ·simp only [Act.put, z1, z2, z3, i64_w, i32_w]
         rfl
        refine pure_ (i := 4) (N := some 11) (v := ?_) (a' := ?_) #[true, true, true, true, true, false, false, false, false, false, false, false, false, false, false, false, false, false, false, false, false, false, false, false] rfl rfl (any_of HT_.out (by kernel_rfl)) (fun _ _ _ h => h) (Or.inl ⟨by rfl, ?_⟩) ?_ ?_
        rotate_left
        ·intro w'
         go_simp
         with_reducible rfl
        rotate_left
        ·simp only [Act.put, z1, z2, z3, i64_w, i32_w]
         rfl
        refine pure_ (i := 5) (N := some 12) (v := ?_) (a' := ?_) #[true, true, true, true, true, true, false, false, false, false, false, false, false, false, false, false, false, false, false, false, false, false, false, false] rfl rfl (any_of HT_.out (by kernel_rfl)) (fun _ _ _ h => h) (Or.inl ⟨by rfl, ?_⟩) ?_ ?_
        rotate_left
        ·intro w'
         go_simp
         with_reducible rfl
        rotate_left
        ·simp only [Act.put, z1, z2, z3, i64_w, i32_w]
         rfl
        refine pure_ (i := 6) (N := some 13) (v := ?_) (a' := ?_) #[true, true, true, true, true, true, true, false, false, false, false, false, false, false, false, false, false, false, false, false, false, false, false, false] rfl rfl (any_of HT_.out (by kernel_rfl)) (fun _ _ _ h => h) (Or.inl ⟨by rfl, ?_⟩) ?_ ?_
        rotate_left
        ·intro w'
         go_simp
         with_reducible rfl
        rotate_left
        ·simp only [Act.put, z1, z2, z3, i64_w, i32_w]
         rfl
        refine pure_ (i := 7) (N := some 14) (v := ?_) (a' := ?_) #[true, true, true, true, true, true, true, true, false, false, false, false, false, false, false, false, false, false, false, false, false, false, false, false] rfl rfl (any_of HT_.out (by kernel_rfl)) (fun _ _ _ h => h) (Or.inl ⟨by rfl, ?_⟩) ?_ ?_
        rotate_left
        ·intro w'
         go_simp
         with_reducible rfl
        rotate_left
        ·simp only [Act.put, z1, z2, z3, i64_w, i32_w]
         rfl
        refine one_ (i := 8) (N := some 15) #[true, true, true, true, true, true, true, true, true, false, false, false, false, false, false, false, false, false, false, false, false, false, false, false] rfl rfl (one_of HT_.out (by kernel_rfl)) (by decide) (fun K hK => ?_)
        refine goes_ Try.func58 (by kernel_rfl) rfl #[.int .i64 a1, .int .i64 0, .int .i64 (wrap64 ((l0.length : Int) - 2))] (by rfl) rfl rfl (by (try simp only [z6, z7, z8]); first | done | rfl | (simp only [z4, z5]; rfl)) ?_
        with_reducible refine (impl_within.calls a1 0 (wrap64 ((l0.length : Int) - 2)) true _ A5.out).mono ?_
        rintro e w' ⟨rfl, ⟨nd, rfl⟩⟩
        refine ⟨_, rfl, ?_⟩
        refine hK.out _ _ ⟨(zt HB.out hw793_0 :), (zt HB.out hw793_1 :), (zt HB.out hw793_2 :), (zt HB.out hw793_3 :), (zt HB.out hw793_4 :), (zt HB.out hw794_0 :), (zt HB.out hw794_1 :), (zt HB.out hw794_2 :), (zt HB.out hw794_3 :), (zt HB.out hw794_4 :)⟩ (fun hHeld => ?_)
        clear hK K
        refine norm_ (a' := ?_) ?_ ?_
        rotate_left
        ·show Act.put _ (some 15) _ = _
         simp only [Act.put, z1, z2, z3, i64_w, i32_w]
         rfl
        refine pure_ (i := 9) (N := some 16) (v := ?_) (a' := ?_) #[true, true, true, true, true, true, true, true, true, true, false, false, false, false, false, false, false, false, false, false, false, false, false, false] rfl rfl (any_of HT_.out (by kernel_rfl)) (fun _ _ _ h => h) (Or.inl ⟨by rfl, ?_⟩) ?_ ?_
        rotate_left
        ·intro w'
         go_simp
         with_reducible rfl
        rotate_left
        ·simp only [Act.put, z1, z2, z3, i64_w, i32_w]
         rfl
        refine pure_ (i := 10) (N := some 17) (v := ?_) (a' := ?_) #[true, true, true, true, true, true, true, true, true, true, true, false, false, false, false, false, false, false, false, false, false, false, false, false] rfl rfl (any_of HT_.out (by kernel_rfl)) (fun _ _ _ h => h) (Or.inl ⟨by rfl, ?_⟩) ?_ ?_
        rotate_left
        ·intro w'
         go_simp
         with_reducible rfl
        rotate_left
        ·simp only [Act.put, z1, z2, z3, i64_w, i32_w]
         rfl
        refine pure_ (i := 11) (N := some 18) (v := ?_) (a' := ?_) #[true, true, true, true, true, true, true, true, true, true, true, true, false, false, false, false, false, false, false, false, false, false, false, false] rfl rfl (any_of HT_.out (by kernel_rfl)) (fun _ _ _ h => h) (Or.inl ⟨by rfl, ?_⟩) ?_ ?_
        rotate_left
        ·intro w'
         go_simp
         with_reducible rfl
        rotate_left
        ·simp only [Act.put, z1, z2, z3, i64_w, i32_w]
         rfl
        refine pure_ (i := 12) (N := some 19) (v := ?_) (a' := ?_) #[true, true, true, true, true, true, true, true, true, true, true, true, true, false, false, false, false, false, false, false, false, false, false, false] rfl rfl (any_of HT_.out (by kernel_rfl)) (fun _ _ _ h => h) (Or.inl ⟨by rfl, ?_⟩) ?_ ?_
        rotate_left
        ·intro w'
         go_simp
         with_reducible rfl
        rotate_left
        ·simp only [Act.put, z1, z2, z3, i64_w, i32_w]
         rfl
        refine pure_ (i := 13) (N := some 20) (v := ?_) (a' := ?_) #[true, true, true, true, true, true, true, true, true, true, true, true, true, true, false, false, false, false, false, false, false, false, false, false] rfl rfl (any_of HT_.out (by kernel_rfl)) (fun _ _ _ h => h) (Or.inl ⟨by rfl, ?_⟩) ?_ ?_
        rotate_left
        ·intro w'
         go_simp
         with_reducible rfl
        rotate_left
        ·simp only [Act.put, z1, z2, z3, i64_w, i32_w]
         rfl
        refine pure_ (i := 14) (N := some 21) (v := ?_) (a' := ?_) #[true, true, true, true, true, true, true, true, true, true, true, true, true, true, true, false, false, false, false, false, false, false, false, false] rfl rfl (any_of HT_.out (by kernel_rfl)) (fun _ _ _ h => h) (Or.inl ⟨by rfl, ?_⟩) ?_ ?_
        rotate_left
        ·intro w'
         go_simp
         with_reducible rfl
        rotate_left
        ·simp only [Act.put, z1, z2, z3, i64_w, i32_w]
         rfl
        refine pure_ (i := 16) (N := some 23) (v := ?_) (a' := ?_) #[true, true, true, true, true, true, true, true, true, true, true, true, true, true, true, false, true, false, false, false, false, false, false, false] rfl rfl (any_of HT_.out (by kernel_rfl)) (fun _ _ _ h => h) (Or.inl ⟨by rfl, ?_⟩) ?_ ?_
        rotate_left
        ·intro w'
         go_simp
         with_reducible rfl
        rotate_left
        ·simp only [Act.put, z1, z2, z3, i64_w, i32_w]
         rfl
        refine pure_ (i := 17) (N := some 24) (v := ?_) (a' := ?_) #[true, true, true, true, true, true, true, true, true, true, true, true, true, true, true, false, true, true, false, false, false, false, false, false] rfl rfl (any_of HT_.out (by kernel_rfl)) (fun _ _ _ h => h) (Or.inl ⟨by rfl, ?_⟩) ?_ ?_
        rotate_left
        ·intro w'
         go_simp
         with_reducible rfl
        rotate_left
        ·simp only [Act.put, z1, z2, z3, i64_w, i32_w]
         rfl
        refine pure_ (i := 18) (N := some 25) (v := ?_) (a' := ?_) #[true, true, true, true, true, true, true, true, true, true, true, true, true, true, true, false, true, true, true, false, false, false, false, false] rfl rfl (any_of HT_.out (by kernel_rfl)) (fun _ _ _ h => h) (Or.inl ⟨by rfl, ?_⟩) ?_ ?_
        rotate_left
        ·intro w'
         go_simp
         with_reducible rfl
        rotate_left
        ·simp only [Act.put, z1, z2, z3, i64_w, i32_w]
         rfl
        refine pure_ (i := 19) (N := some 26) (v := ?_) (a' := ?_) #[true, true, true, true, true, true, true, true, true, true, true, true, true, true, true, false, true, true, true, true, false, false, false, false] rfl rfl (any_of HT_.out (by kernel_rfl)) (fun _ _ _ h => h) (Or.inl ⟨by rfl, ?_⟩) ?_ ?_
        rotate_left
        ·intro w'
         go_simp
         with_reducible rfl
        rotate_left
        ·simp only [Act.put, z1, z2, z3, i64_w, i32_w]
         rfl
        refine take_ (i := 15) (N := some 22) (v := ?_) (a' := ?_) #[true, true, true, true, true, true, true, true, true, true, true, true, true, true, true, true, true, true, true, true, false, false, false, false] rfl rfl (take_ofW HT_.out HW_.out (by kernel_rfl)) (fun _ _ _ h => h) (Or.inl ⟨by rfl, ?_⟩) hHeld ?_ ?_
        rotate_left
        ·rintro w' ⟨s0, s1, s2, s3, s4, s5, s6, s7, s8, s9⟩
         go_simp
         with_reducible rfl
        rotate_left
        ·simp only [Act.put, z1, z2, z3, i64_w, i32_w]
         rfl
        refine take_ (i := 20) (N := some 27) (v := ?_) (a' := ?_) #[true, true, true, true, true, true, true, true, true, true, true, true, true, true, true, true, true, true, true, true, true, false, false, false] rfl rfl (take_ofW HT_.out HW_.out (by kernel_rfl)) (fun _ _ _ h => h) (Or.inl ⟨by rfl, ?_⟩) hHeld ?_ ?_
        rotate_left
        ·rintro w' ⟨s0, s1, s2, s3, s4, s5, s6, s7, s8, s9⟩
         go_simp
         with_reducible rfl
        rotate_left
        ·simp only [Act.put, z1, z2, z3, i64_w, i32_w]
         rfl
        refine one_ (i := 21) (N := some 28) #[true, true, true, true, true, true, true, true, true, true, true, true, true, true, true, true, true, true, true, true, true, true, false, false] rfl rfl (one_of HT_.out (by kernel_rfl)) (by decide) (fun K hK => ?_)
        refine goes_ Try.func54 (by kernel_rfl) rfl #[.agg #[.string ((rd_T37 l0 a1).f0), .int .i64 ((rd_T37 l0 a1).f1), .int .i64 ((rd_T37 l0 a1).f2), .int .i64 ((rd_T37 l0 a1).f3), .int .i64 ((rd_T37 l0 a1).f4)], .agg #[.string ((rd_T37 l0 (ji9)).f0), .int .i64 ((rd_T37 l0 (ji9)).f1), .int .i64 ((rd_T37 l0 (ji9)).f2), .int .i64 ((rd_T37 l0 (ji9)).f3), .int .i64 ((rd_T37 l0 (ji9)).f4)]] (by rfl) rfl rfl (by (try simp only [z6, z7, z8]); first | done | (simp only [hji9]; rfl) | rfl | (simp only [z4, z5]; rfl)) ?_
        with_reducible refine (impl_independent.calls k ((rd_T37 l0 a1).f0) ((rd_T37 l0 a1).f1) ((rd_T37 l0 a1).f2) ((rd_T37 l0 a1).f3) ((rd_T37 l0 a1).f4) ((rd_T37 l0 (ji9)).f0) ((rd_T37 l0 (ji9)).f1) ((rd_T37 l0 (ji9)).f2) ((rd_T37 l0 (ji9)).f3) ((rd_T37 l0 (ji9)).f4) false _ A12.out).mono ?_
        rintro e w29 ⟨rfl, hb⟩
        refine ⟨_, rfl, ?_⟩
        have n0_ := zK (zL (by repeat (first | (with_reducible first | exact HB.out | apply zA | apply zB | apply zC) | exact HB.out)) hb)
        clear HB
        have HB := n0_
        clear n0_
        (try clear hb)
        (try clear hb2)
        (try clear hk)
        (try clear hi)
        refine hK.out _ _ ⟨(zt HB.out hw793_0 :), (zt HB.out hw793_1 :), (zt HB.out hw793_2 :), (zt HB.out hw793_3 :), (zt HB.out hw793_4 :), (zt HB.out hw794_0 :), (zt HB.out hw794_1 :), (zt HB.out hw794_2 :), (zt HB.out hw794_3 :), (zt HB.out hw794_4 :)⟩ (fun hHeld => ?_)
        clear hK K
        refine norm_ (a' := ?_) ?_ ?_
        rotate_left
        ·show Act.put _ (some 28) _ = _
         simp only [Act.put, z1, z2, z3, i64_w, i32_w]
         rfl
        refine pure_ (i := 22) (N := some 29) (v := ?_) (a' := ?_) #[true, true, true, true, true, true, true, true, true, true, true, true, true, true, true, true, true, true, true, true, true, true, true, false] rfl rfl (any_of HT_.out (by kernel_rfl)) (fun _ _ _ h => h) (Or.inl ⟨by rfl, ?_⟩) ?_ ?_
        rotate_left
        ·intro w'
         go_simp
         with_reducible rfl
        rotate_left
        ·simp only [Act.put, z1, z2, z3, i64_w, i32_w]
         rfl
        refine pure_ (i := 23) (N := some 30) (v := ?_) (a' := ?_) #[true, true, true, true, true, true, true, true, true, true, true, true, true, true, true, true, true, true, true, true, true, true, true, true] rfl rfl (any_of HT_.out (by kernel_rfl)) (fun _ _ _ h => h) (Or.inl ⟨by rfl, ?_⟩) ?_ ?_
        rotate_left
        ·intro w'
         go_simp
         with_reducible rfl
        rotate_left
        ·simp only [Act.put, z1, z2, z3, i64_w, i32_w]
         rfl
        refine done_ (done_of HT_.out (by kernel_rfl)) ?_
        try go_wp2
        go_ret2
        exact ⟨_, by first | rfl | (simp [errW_none, errW_some] <;> rfl) | (simp only [← hji9]; first | rfl | (simp [errW_none, errW_some] <;> rfl)) | (simp [*, errW_none, errW_some] <;> rfl), by first | exact Kd.R_nil _ _ _ _ _ | exact Kd.N_nil _ _ _ _ _ | exact Kd.V_nil _ _ _ _ _ | exact Kd.Q_nil _ _ _ _ _ | exact Kd.S_nil _ _ _ _ _, by repeat (first | (with_reducible first | exact HB.out | apply zA | apply zB | apply zC) | exact HB.out)⟩
      ·rw [if_neg c11] at H
       exact absurd H (by simp)
     ·rw [if_neg c10] at H
      exact absurd H (by simp)
    ·rw [if_neg c8] at H
     exact absurd H (by simp)
   ·rw [if_neg c7] at H
    exact absurd H (by simp)
  ·replace c6 := Bool.eq_false_iff.mpr c6
   subst c6
   rw [if_neg (show ¬ (false = true) by decide)] at H
   simp only [Option.some.injEq, Prod.mk.injEq] at H
   obtain ⟨rfl, rfl⟩ := H
   go_enter Try.func28, Try.ntmps28
   try go_wp2
   have n0_ := zK (zC HB.out)
   clear HB
   have HB := n0_
   clear n0_
   refine start_ (n := 24) (S := fun w' => True) (ds := []) #[false, false, false, false, false, false, false, false, false, false, false, false, false, false, false, false, false, false, false, false, false, false, false, false] (by kernel_rfl) rfl rfl trivial (fun hHeld => ?_); refine with_tabW impl_SwapNeighbours.tab1 impl_SwapNeighbours.bits1 (fun HT_ HW_ => ?_)
   generalize w.drew = w30 at HB hHeld ⊢
   refine pure_ (i := 0) (N := some 7) (v := ?_) (a' := ?_) #[true, false, false, false, false, false, false, false, false, false, false, false, false, false, false, false, false, false, false, false, false, false, false, false] rfl rfl (any_of HT_.out (by kernel_rfl)) (fun _ _ _ h => h) (Or.inl ⟨by rfl, ?_⟩) ?_ ?_
   rotate_left
   ·intro w'
    go_simp
    with_reducible rfl
   rotate_left
   ·simp only [Act.put, z1, z2, z3, i64_w, i32_w]
    rfl
   refine one_ (i := 1) (N := some 8) #[true, true, false, false, false, false, false, false, false, false, false, false, false, false, false, false, false, false, false, false, false, false, false, false] rfl rfl (one_of HT_.out (by kernel_rfl)) (by decide) (fun K hK => ?_)
   refine goes_ Try.func57 (by kernel_rfl) rfl #[.slice A0 l0.length c0] (by rfl) rfl rfl (by (try simp only [z6, z7, z8]); first | done | rfl | (simp only [z4, z5]; rfl)) ?_
   with_reducible refine (impl_IsCode.calls k _ _ l0 true _ ?side1 ?side2 A3.out).mono ?_
   (case side1 => repeat (first | exact (Kd.C_below HR0.out HB.out) | (with_reducible refine Kd.C_alloc ?_ _) | (with_reducible refine Kd.C_drewN ?_ _) | (with_reducible refine Kd.C_drew ?_)))
   (case side2 => exact HC0.out)
   rintro e w31 ⟨rfl, hb⟩
   refine ⟨_, rfl, ?_⟩
   have n0_ := zK (zL (by repeat (first | (with_reducible first | exact HB.out | apply zA | apply zB | apply zC) | exact HB.out)) hb)
   clear HB
   have HB := n0_
   clear n0_
   (try clear hb)
   (try clear hb2)
   (try clear hk)
   (try clear hi)
   refine hK.out _ _ trivial (fun hHeld => ?_)
   clear hK K
   refine norm_ (a' := ?_) ?_ ?_
   rotate_left
   ·show Act.put _ (some 8) _ = _
    simp only [Act.put, z1, z2, z3, i64_w, i32_w]
    rfl
   refine pure_ (i := 2) (N := some 9) (v := ?_) (a' := ?_) #[true, true, true, false, false, false, false, false, false, false, false, false, false, false, false, false, false, false, false, false, false, false, false, false] rfl rfl (any_of HT_.out (by kernel_rfl)) (fun _ _ _ h => h) (Or.inl ⟨by rfl, ?_⟩) ?_ ?_
   rotate_left
   ·intro w'
    go_simp
    with_reducible rfl
   rotate_left
   ·simp only [Act.put, z1, z2, z3, i64_w, i32_w]
    rfl
   refine pure_ (i := 3) (N := some 10) (v := ?_) (a' := ?_) #[true, true, true, true, false, false, false, false, false, false, false, false, false, false, false, false, false, false, false, false, false, false, false, false] rfl rfl (any_of HT_.out (by kernel_rfl)) (fun _ _ _ h => h) (Or.inl ⟨by rfl, ?_⟩) ?_ ?_
   rotate_left
   ·intro w'
    go_simp
    with_reducible rfl
   rotate_left
   ·simp only [Act.put, z1, z2, z3, i64_w, i32_w]
    rfl
   refine pure_ (i := 4) (N := some 11) (v := ?_) (a' := ?_) #[true, true, true, true, true, false, false, false, false, false, false, false, false, false, false, false, false, false, false, false, false, false, false, false] rfl rfl (any_of HT_.out (by kernel_rfl)) (fun _ _ _ h => h) (Or.inl ⟨by rfl, ?_⟩) ?_ ?_
   rotate_left
   ·intro w'
    go_simp
    with_reducible rfl
   rotate_left
   ·simp only [Act.put, z1, z2, z3, i64_w, i32_w]
    rfl
   refine pure_ (i := 5) (N := some 12) (v := ?_) (a' := ?_) #[true, true, true, true, true, true, false, false, false, false, false, false, false, false, false, false, false, false, false, false, false, false, false, false] rfl rfl (any_of HT_.out (by kernel_rfl)) (fun _ _ _ h => h) (Or.inl ⟨by rfl, ?_⟩) ?_ ?_
   rotate_left
   ·intro w'
    go_simp
    with_reducible rfl
   rotate_left
   ·simp only [Act.put, z1, z2, z3, i64_w, i32_w]
    rfl
   refine pure_ (i := 6) (N := some 13) (v := ?_) (a' := ?_) #[true, true, true, true, true, true, true, false, false, false, false, false, false, false, false, false, false, false, false, false, false, false, false, false] rfl rfl (any_of HT_.out (by kernel_rfl)) (fun _ _ _ h => h) (Or.inl ⟨by rfl, ?_⟩) ?_ ?_
   rotate_left
   ·intro w'
    go_simp
    with_reducible rfl
   rotate_left
   ·simp only [Act.put, z1, z2, z3, i64_w, i32_w]
    rfl
   refine pure_ (i := 7) (N := some 14) (v := ?_) (a' := ?_) #[true, true, true, true, true, true, true, true, false, false, false, false, false, false, false, false, false, false, false, false, false, false, false, false] rfl rfl (any_of HT_.out (by kernel_rfl)) (fun _ _ _ h => h) (Or.inl ⟨by rfl, ?_⟩) ?_ ?_
   rotate_left
   ·intro w'
    go_simp
    with_reducible rfl
   rotate_left
   ·simp only [Act.put, z1, z2, z3, i64_w, i32_w]
    rfl
   refine one_ (i := 8) (N := some 15) #[true, true, true, true, true, true, true, true, true, false, false, false, false, false, false, false, false, false, false, false, false, false, false, false] rfl rfl (one_of HT_.out (by kernel_rfl)) (by decide) (fun K hK => ?_)
   refine goes_ Try.func58 (by kernel_rfl) rfl #[.int .i64 a1, .int .i64 0, .int .i64 (wrap64 ((l0.length : Int) - 2))] (by rfl) rfl rfl (by (try simp only [z6, z7, z8]); first | done | rfl | (simp only [z4, z5]; rfl)) ?_
   with_reducible refine (impl_within.calls a1 0 (wrap64 ((l0.length : Int) - 2)) false _ A5.out).mono ?_
   rintro e w' ⟨rfl, ⟨nd, rfl⟩⟩
   refine ⟨_, rfl, ?_⟩
   refine hK.out _ _ trivial (fun hHeld => ?_)
   clear hK K
   refine norm_ (a' := ?_) ?_ ?_
   rotate_left
   ·show Act.put _ (some 15) _ = _
    simp only [Act.put, z1, z2, z3, i64_w, i32_w]
    rfl
   refine pure_ (i := 9) (N := some 16) (v := ?_) (a' := ?_) #[true, true, true, true, true, true, true, true, true, true, false, false, false, false, false, false, false, false, false, false, false, false, false, false] rfl rfl (any_of HT_.out (by kernel_rfl)) (fun _ _ _ h => h) (Or.inl ⟨by rfl, ?_⟩) ?_ ?_
   rotate_left
   ·intro w'
    go_simp
    with_reducible rfl
   rotate_left
   ·simp only [Act.put, z1, z2, z3, i64_w, i32_w]
    rfl
   refine pure_ (i := 10) (N := some 17) (v := ?_) (a' := ?_) #[true, true, true, true, true, true, true, true, true, true, true, false, false, false, false, false, false, false, false, false, false, false, false, false] rfl rfl (any_of HT_.out (by kernel_rfl)) (fun _ _ _ h => h) (Or.inl ⟨by rfl, ?_⟩) ?_ ?_
   rotate_left
   ·intro w'
    go_simp
    with_reducible rfl
   rotate_left
   ·simp only [Act.put, z1, z2, z3, i64_w, i32_w]
    rfl
   refine pure_ (i := 11) (N := some 18) (v := ?_) (a' := ?_) #[true, true, true, true, true, true, true, true, true, true, true, true, false, false, false, false, false, false, false, false, false, false, false, false] rfl rfl (any_of HT_.out (by kernel_rfl)) (fun _ _ _ h => h) (Or.inl ⟨by rfl, ?_⟩) ?_ ?_
   rotate_left
   ·intro w'
    go_simp
    with_reducible rfl
   rotate_left
   ·simp only [Act.put, z1, z2, z3, i64_w, i32_w]
    rfl
   refine pure_ (i := 12) (N := some 19) (v := undef) (a' := ?_) #[true, true, true, true, true, true, true, true, true, true, true, true, true, false, false, false, false, false, false, false, false, false, false, false] rfl rfl (any_of HT_.out (by kernel_rfl)) (fun _ _ _ h => h) (Or.inr ⟨by rfl, rfl⟩) ?_ ?_
   rotate_left
   ·simp only [Act.put, z1, z2, z3, i64_w, i32_w]
    rfl
   refine pure_ (i := 13) (N := some 20) (v := undef) (a' := ?_) #[true, true, true, true, true, true, true, true, true, true, true, true, true, true, false, false, false, false, false, false, false, false, false, false] rfl rfl (any_of HT_.out (by kernel_rfl)) (fun _ _ _ h => h) (Or.inr ⟨by rfl, rfl⟩) ?_ ?_
   rotate_left
   ·simp only [Act.put, z1, z2, z3, i64_w, i32_w]
    rfl
   refine pure_ (i := 14) (N := some 21) (v := undef) (a' := ?_) #[true, true, true, true, true, true, true, true, true, true, true, true, true, true, true, false, false, false, false, false, false, false, false, false] rfl rfl (any_of HT_.out (by kernel_rfl)) (fun _ _ _ h => h) (Or.inr ⟨by rfl, rfl⟩) ?_ ?_
   rotate_left
   ·simp only [Act.put, z1, z2, z3, i64_w, i32_w]
    rfl
   refine pure_ (i := 15) (N := some 22) (v := undef) (a' := ?_) #[true, true, true, true, true, true, true, true, true, true, true, true, true, true, true, true, false, false, false, false, false, false, false, false] rfl rfl (any_of HT_.out (by kernel_rfl)) (fun _ _ _ h => h) (Or.inr ⟨by rfl, rfl⟩) ?_ ?_
   rotate_left
   ·simp only [Act.put, z1, z2, z3, i64_w, i32_w]
    rfl
   refine pure_ (i := 16) (N := some 23) (v := undef) (a' := ?_) #[true, true, true, true, true, true, true, true, true, true, true, true, true, true, true, true, true, false, false, false, false, false, false, false] rfl rfl (any_of HT_.out (by kernel_rfl)) (fun _ _ _ h => h) (Or.inr ⟨by rfl, rfl⟩) ?_ ?_
   rotate_left
   ·simp only [Act.put, z1, z2, z3, i64_w, i32_w]
    rfl
   refine pure_ (i := 17) (N := some 24) (v := undef) (a' := ?_) #[true, true, true, true, true, true, true, true, true, true, true, true, true, true, true, true, true, true, false, false, false, false, false, false] rfl rfl (any_of HT_.out (by kernel_rfl)) (fun _ _ _ h => h) (Or.inr ⟨by rfl, rfl⟩) ?_ ?_
   rotate_left
   ·simp only [Act.put, z1, z2, z3, i64_w, i32_w]
    rfl
   refine pure_ (i := 18) (N := some 25) (v := undef) (a' := ?_) #[true, true, true, true, true, true, true, true, true, true, true, true, true, true, true, true, true, true, true, false, false, false, false, false] rfl rfl (any_of HT_.out (by kernel_rfl)) (fun _ _ _ h => h) (Or.inr ⟨by rfl, rfl⟩) ?_ ?_
   rotate_left
   ·simp only [Act.put, z1, z2, z3, i64_w, i32_w]
    rfl
   refine pure_ (i := 19) (N := some 26) (v := undef) (a' := ?_) #[true, true, true, true, true, true, true, true, true, true, true, true, true, true, true, true, true, true, true, true, false, false, false, false] rfl rfl (any_of HT_.out (by kernel_rfl)) (fun _ _ _ h => h) (Or.inr ⟨by rfl, rfl⟩) ?_ ?_
   rotate_left
   ·simp only [Act.put, z1, z2, z3, i64_w, i32_w]
    rfl
   refine pure_ (i := 20) (N := some 27) (v := undef) (a' := ?_) #[true, true, true, true, true, true, true, true, true, true, true, true, true, true, true, true, true, true, true, true, true, false, false, false] rfl rfl (any_of HT_.out (by kernel_rfl)) (fun _ _ _ h => h) (Or.inr ⟨by rfl, rfl⟩) ?_ ?_
   rotate_left
   ·simp only [Act.put, z1, z2, z3, i64_w, i32_w]
    rfl
   refine pure_ (i := 21) (N := some 28) (v := undef) (a' := ?_) #[true, true, true, true, true, true, true, true, true, true, true, true, true, true, true, true, true, true, true, true, true, true, false, false] rfl rfl (any_of HT_.out (by kernel_rfl)) (fun _ _ _ h => h) (Or.inr ⟨by rfl, rfl⟩) ?_ ?_
   rotate_left
   ·simp only [Act.put, z1, z2, z3, i64_w, i32_w]
    rfl
   refine pure_ (i := 22) (N := some 29) (v := undef) (a' := ?_) #[true, true, true, true, true, true, true, true, true, true, true, true, true, true, true, true, true, true, true, true, true, true, true, false] rfl rfl (any_of HT_.out (by kernel_rfl)) (fun _ _ _ h => h) (Or.inr ⟨by rfl, rfl⟩) ?_ ?_
   rotate_left
   ·simp only [Act.put, z1, z2, z3, i64_w, i32_w]
    rfl
   refine pure_ (i := 23) (N := some 30) (v := ?_) (a' := ?_) #[true, true, true, true, true, true, true, true, true, true, true, true, true, true, true, true, true, true, true, true, true, true, true, true] rfl rfl (any_of HT_.out (by kernel_rfl)) (fun _ _ _ h => h) (Or.inl ⟨by rfl, ?_⟩) ?_ ?_
   rotate_left
   ·intro w'
    go_simp
    with_reducible rfl
   rotate_left
   ·simp only [Act.put, z1, z2, z3, i64_w, i32_w]
    rfl
   refine done_ (done_of HT_.out (by kernel_rfl)) ?_
   try go_wp2
   go_ret2
   exact ⟨_, by first | rfl | (simp [errW_none, errW_some] <;> rfl) | (simp [*, errW_none, errW_some] <;> rfl), by first | exact Kd.R_nil _ _ _ _ _ | exact Kd.N_nil _ _ _ _ _ | exact Kd.V_nil _ _ _ _ _ | exact Kd.Q_nil _ _ _ _ _ | exact Kd.S_nil _ _ _ _ _, by repeat (first | (with_reducible first | exact HB.out | apply zA | apply zB | apply zC) | exact HB.out)⟩
 ·replace c4 := Bool.eq_false_iff.mpr c4
  subst c4
  rw [if_neg (show ¬ (false = true) by decide)] at H
  simp only [Option.some.injEq, Prod.mk.injEq] at H
  obtain ⟨rfl, rfl⟩ := H
  go_enter Try.func28, Try.ntmps28
  try go_wp2
  have n0_ := zK (zC HB.out)
  clear HB
  have HB := n0_
  clear n0_
  refine start_ (n := 24) (S := fun w' => True) (ds := []) #[false, false, false, false, false, false, false, false, false, false, false, false, false, false, false, false, false, false, false, false, false, false, false, false] (by kernel_rfl) rfl rfl trivial (fun hHeld => ?_); refine with_tabW impl_SwapNeighbours.tab1 impl_SwapNeighbours.bits1 (fun HT_ HW_ => ?_)
  generalize w.drew = w32 at HB hHeld ⊢
  refine pure_ (i := 0) (N := some 7) (v := ?_) (a' := ?_) #[true, false, false, false, false, false, false, false, false, false, false, false, false, false, false, false, false, false, false, false, false, false, false, false] rfl rfl (any_of HT_.out (by kernel_rfl)) (fun _ _ _ h => h) (Or.inl ⟨by rfl, ?_⟩) ?_ ?_
  rotate_left
  ·intro w'
   go_simp
   with_reducible rfl
  rotate_left
  ·simp only [Act.put, z1, z2, z3, i64_w, i32_w]
   rfl
  refine one_ (i := 1) (N := some 8) #[true, true, false, false, false, false, false, false, false, false, false, false, false, false, false, false, false, false, false, false, false, false, false, false] rfl rfl (one_of HT_.out (by kernel_rfl)) (by decide) (fun K hK => ?_)
  refine goes_ Try.func57 (by kernel_rfl) rfl #[.slice A0 l0.length c0] (by rfl) rfl rfl (by (try simp only [z6, z7, z8]); first | done | rfl | (simp only [z4, z5]; rfl)) ?_
  with_reducible refine (impl_IsCode.calls k _ _ l0 false _ ?side1 ?side2 A3.out).mono ?_
  (case side1 => repeat (first | exact (Kd.C_below HR0.out HB.out) | (with_reducible refine Kd.C_alloc ?_ _) | (with_reducible refine Kd.C_drewN ?_ _) | (with_reducible refine Kd.C_drew ?_)))
  (case side2 => exact HC0.out)
  rintro e w33 ⟨rfl, hb⟩
  refine ⟨_, rfl, ?_⟩
  have n0_ := zK (zL (by repeat (first | (with_reducible first | exact HB.out | apply zA | apply zB | apply zC) | exact HB.out)) hb)
  clear HB
  have HB := n0_
  clear n0_
  (try clear hb)
  (try clear hb2)
  (try clear hk)
  (try clear hi)
  refine hK.out _ _ trivial (fun hHeld => ?_)
  clear hK K
  refine norm_ (a' := ?_) ?_ ?_
  rotate_left
  ·show Act.put _ (some 8) _ = _
   simp only [Act.put, z1, z2, z3, i64_w, i32_w]
   rfl
  refine pure_ (i := 2) (N := some 9) (v := ?_) (a' := ?_) #[true, true, true, false, false, false, false, false, false, false, false, false, false, false, false, false, false, false, false, false, false, false, false, false] rfl rfl (any_of HT_.out (by kernel_rfl)) (fun _ _ _ h => h) (Or.inl ⟨by rfl, ?_⟩) ?_ ?_
  rotate_left
  ·intro w'
   go_simp
   with_reducible rfl
  rotate_left
  ·simp only [Act.put, z1, z2, z3, i64_w, i32_w]
   rfl
  refine pure_ (i := 3) (N := some 10) (v := ?_) (a' := ?_) #[true, true, true, true, false, false, false, false, false, false, false, false, false, false, false, false, false, false, false, false, false, false, false, false] rfl rfl (any_of HT_.out (by kernel_rfl)) (fun _ _ _ h => h) (Or.inl ⟨by rfl, ?_⟩) ?_ ?_
  rotate_left
  ·intro w'
   go_simp
   with_reducible rfl
  rotate_left
  ·simp only [Act.put, z1, z2, z3, i64_w, i32_w]
   rfl
  refine pure_ (i := 4) (N := some 11) (v := undef) (a' := ?_) #[true, true, true, true, true, false, false, false, false, false, false, false, false, false, false, false, false, false, false, false, false, false, false, false] rfl rfl (any_of HT_.out (by kernel_rfl)) (fun _ _ _ h => h) (Or.inr ⟨by rfl, rfl⟩) ?_ ?_
  rotate_left
  ·simp only [Act.put, z1, z2, z3, i64_w, i32_w]
   rfl
  refine pure_ (i := 5) (N := some 12) (v := undef) (a' := ?_) #[true, true, true, true, true, true, false, false, false, false, false, false, false, false, false, false, false, false, false, false, false, false, false, false] rfl rfl (any_of HT_.out (by kernel_rfl)) (fun _ _ _ h => h) (Or.inr ⟨by rfl, rfl⟩) ?_ ?_
  rotate_left
  ·simp only [Act.put, z1, z2, z3, i64_w, i32_w]
   rfl
  refine pure_ (i := 6) (N := some 13) (v := undef) (a' := ?_) #[true, true, true, true, true, true, true, false, false, false, false, false, false, false, false, false, false, false, false, false, false, false, false, false] rfl rfl (any_of HT_.out (by kernel_rfl)) (fun _ _ _ h => h) (Or.inr ⟨by rfl, rfl⟩) ?_ ?_
  rotate_left
  ·simp only [Act.put, z1, z2, z3, i64_w, i32_w]
   rfl
  refine pure_ (i := 7) (N := some 14) (v := undef) (a' := ?_) #[true, true, true, true, true, true, true, true, false, false, false, false, false, false, false, false, false, false, false, false, false, false, false, false] rfl rfl (any_of HT_.out (by kernel_rfl)) (fun _ _ _ h => h) (Or.inr ⟨by rfl, rfl⟩) ?_ ?_
  rotate_left
  ·simp only [Act.put, z1, z2, z3, i64_w, i32_w]
   rfl
  refine pure_ (i := 8) (N := some 15) (v := undef) (a' := ?_) #[true, true, true, true, true, true, true, true, true, false, false, false, false, false, false, false, false, false, false, false, false, false, false, false] rfl rfl (any_of HT_.out (by kernel_rfl)) (fun _ _ _ h => h) (Or.inr ⟨by rfl, rfl⟩) ?_ ?_
  rotate_left
  ·simp only [Act.put, z1, z2, z3, i64_w, i32_w]
   rfl
  refine pure_ (i := 9) (N := some 16) (v := undef) (a' := ?_) #[true, true, true, true, true, true, true, true, true, true, false, false, false, false, false, false, false, false, false, false, false, false, false, false] rfl rfl (any_of HT_.out (by kernel_rfl)) (fun _ _ _ h => h) (Or.inr ⟨by rfl, rfl⟩) ?_ ?_
  rotate_left
  ·simp only [Act.put, z1, z2, z3, i64_w, i32_w]
   rfl
  refine pure_ (i := 10) (N := some 17) (v := ?_) (a' := ?_) #[true, true, true, true, true, true, true, true, true, true, true, false, false, false, false, false, false, false, false, false, false, false, false, false] rfl rfl (any_of HT_.out (by kernel_rfl)) (fun _ _ _ h => h) (Or.inl ⟨by rfl, ?_⟩) ?_ ?_
  rotate_left
  ·intro w'
   go_simp
   with_reducible rfl
  rotate_left
  ·simp only [Act.put, z1, z2, z3, i64_w, i32_w]
   rfl
  refine pure_ (i := 11) (N := some 18) (v := ?_) (a' := ?_) #[true, true, true, true, true, true, true, true, true, true, true, true, false, false, false, false, false, false, false, false, false, false, false, false] rfl rfl (any_of HT_.out (by kernel_rfl)) (fun _ _ _ h => h) (Or.inl ⟨by rfl, ?_⟩) ?_ ?_
  rotate_left
  ·intro w'
   go_simp
   with_reducible rfl
  rotate_left
  ·simp only [Act.put, z1, z2, z3, i64_w, i32_w]
   rfl
  refine pure_ (i := 12) (N := some 19) (v := undef) (a' := ?_) #[true, true, true, true, true, true, true, true, true, true, true, true, true, false, false, false, false, false, false, false, false, false, false, false] rfl rfl (any_of HT_.out (by kernel_rfl)) (fun _ _ _ h => h) (Or.inr ⟨by rfl, rfl⟩) ?_ ?_
  rotate_left
  ·simp only [Act.put, z1, z2, z3, i64_w, i32_w]
   rfl
  refine pure_ (i := 13) (N := some 20) (v := undef) (a' := ?_) #[true, true, true, true, true, true, true, true, true, true, true, true, true, true, false, false, false, false, false, false, false, false, false, false] rfl rfl (any_of HT_.out (by kernel_rfl)) (fun _ _ _ h => h) (Or.inr ⟨by rfl, rfl⟩) ?_ ?_
  rotate_left
  ·simp only [Act.put, z1, z2, z3, i64_w, i32_w]
   rfl
  refine pure_ (i := 14) (N := some 21) (v := undef) (a' := ?_) #[true, true, true, true, true, true, true, true, true, true, true, true, true, true, true, false, false, false, false, false, false, false, false, false] rfl rfl (any_of HT_.out (by kernel_rfl)) (fun _ _ _ h => h) (Or.inr ⟨by rfl, rfl⟩) ?_ ?_
  rotate_left
  ·simp only [Act.put, z1, z2, z3, i64_w, i32_w]
   rfl
  refine pure_ (i := 15) (N := some 22) (v := undef) (a' := ?_) #[true, true, true, true, true, true, true, true, true, true, true, true, true, true, true, true, false, false, false, false, false, false, false, false] rfl rfl (any_of HT_.out (by kernel_rfl)) (fun _ _ _ h => h) (Or.inr ⟨by rfl, rfl⟩) ?_ ?_
  rotate_left
  ·simp only [Act.put, z1, z2, z3, i64_w, i32_w]
   rfl
  refine pure_ (i := 16) (N := some 23) (v := undef) (a' := ?_) #[true, true, true, true, true, true, true, true, true, true, true, true, true, true, true, true, true, false, false, false, false, false, false, false] rfl rfl (any_of HT_.out (by kernel_rfl)) (fun _ _ _ h => h) (Or.inr ⟨by rfl, rfl⟩) ?_ ?_
  rotate_left
  ·simp only [Act.put, z1, z2, z3, i64_w, i32_w]
   rfl
  refine pure_ (i := 17) (N := some 24) (v := undef) (a' := ?_) #[true, true, true, true, true, true, true, true, true, true, true, true, true, true, true, true, true, true, false, false, false, false, false, false] rfl rfl (any_of HT_.out (by kernel_rfl)) (fun _ _ _ h => h) (Or.inr ⟨by rfl, rfl⟩) ?_ ?_
  rotate_left
  ·simp only [Act.put, z1, z2, z3, i64_w, i32_w]
   rfl
  refine pure_ (i := 18) (N := some 25) (v := undef) (a' := ?_) #[true, true, true, true, true, true, true, true, true, true, true, true, true, true, true, true, true, true, true, false, false, false, false, false] rfl rfl (any_of HT_.out (by kernel_rfl)) (fun _ _ _ h => h) (Or.inr ⟨by rfl, rfl⟩) ?_ ?_
  rotate_left
  ·simp only [Act.put, z1, z2, z3, i64_w, i32_w]
   rfl
  refine pure_ (i := 19) (N := some 26) (v := undef) (a' := ?_) #[true, true, true, true, true, true, true, true, true, true, true, true, true, true, true, true, true, true, true, true, false, false, false, false] rfl rfl (any_of HT_.out (by kernel_rfl)) (fun _ _ _ h => h) (Or.inr ⟨by rfl, rfl⟩) ?_ ?_
  rotate_left
  ·simp only [Act.put, z1, z2, z3, i64_w, i32_w]
   rfl
  refine pure_ (i := 20) (N := some 27) (v := undef) (a' := ?_) #[true, true, true, true, true, true, true, true, true, true, true, true, true, true, true, true, true, true, true, true, true, false, false, false] rfl rfl (any_of HT_.out (by kernel_rfl)) (fun _ _ _ h => h) (Or.inr ⟨by rfl, rfl⟩) ?_ ?_
  rotate_left
  ·simp only [Act.put, z1, z2, z3, i64_w, i32_w]
   rfl
  refine pure_ (i := 21) (N := some 28) (v := undef) (a' := ?_) #[true, true, true, true, true, true, true, true, true, true, true, true, true, true, true, true, true, true, true, true, true, true, false, false] rfl rfl (any_of HT_.out (by kernel_rfl)) (fun _ _ _ h => h) (Or.inr ⟨by rfl, rfl⟩) ?_ ?_
  rotate_left
  ·simp only [Act.put, z1, z2, z3, i64_w, i32_w]
   rfl
  refine pure_ (i := 22) (N := some 29) (v := undef) (a' := ?_) #[true, true, true, true, true, true, true, true, true, true, true, true, true, true, true, true, true, true, true, true, true, true, true, false] rfl rfl (any_of HT_.out (by kernel_rfl)) (fun _ _ _ h => h) (Or.inr ⟨by rfl, rfl⟩) ?_ ?_
  rotate_left
  ·simp only [Act.put, z1, z2, z3, i64_w, i32_w]
   rfl
  refine pure_ (i := 23) (N := some 30) (v := ?_) (a' := ?_) #[true, true, true, true, true, true, true, true, true, true, true, true, true, true, true, true, true, true, true, true, true, true, true, true] rfl rfl (any_of HT_.out (by kernel_rfl)) (fun _ _ _ h => h) (Or.inl ⟨by rfl, ?_⟩) ?_ ?_
  rotate_left
  ·intro w'
   go_simp
   with_reducible rfl
  rotate_left
  ·simp only [Act.put, z1, z2, z3, i64_w, i32_w]
   rfl
  refine done_ (done_of HT_.out (by kernel_rfl)) ?_
  try go_wp2
  go_ret2
  exact ⟨_, by first | rfl | (simp [errW_none, errW_some] <;> rfl) | (simp [*, errW_none, errW_some] <;> rfl), by first | exact Kd.R_nil _ _ _ _ _ | exact Kd.N_nil _ _ _ _ _ | exact Kd.V_nil _ _ _ _ _ | exact Kd.Q_nil _ _ _ _ _ | exact Kd.S_nil _ _ _ _ _, by repeat (first | (with_reducible first | exact HB.out | apply zA | apply zB | apply zC) | exact HB.out)⟩

end Go.Proofs.Ythnckplfnmkmpaa.F
