/- Contracts: spec_l1Own, spec_eqChanged. -/
import Derived.Test.YtlcplhcccgbmnaaAK
import Derived.Test.YtlcplhcccgbmnaaAImplIsExpr
import Derived.Test.YtlcplhcccgbmnaaASpecExOps
import Derived.Test.YtlcplhcccgbmnaaASpecExApply
namespace Go.Proofs.Ytlcplhcccgbmnaa.A
open Go.RowKit Go.Proofs.YtlcplhcccgbmnaaW.PrintWords Go.Proofs.YtlcplhcccgbmnaaW.PrintLast Go.Proofs.YtlcplhcccgbmnaaW.PrintMore
attribute [local go_sem] max2_int min2_int max_two min_two max_three min_three max_four min_four   -- for this text's walks alone
set_option linter.unusedVariables false
set_option linter.unusedSimpArgs false

/-! ### spec_l1Own: function 124 -/
def spec_l1Own.f (l0 : List Int) : Option (List Int) := (some (([] : List Int) : List Int)).bind fun y579 => (if y579.length + l0.length < 17592186044416 then (some (y579 ++ l0)) else (none))
set_option maxHeartbeats 8000000 in
set_option maxRecDepth 100000 in
theorem spec_l1Own.calls (A0 : Option Addr) (c0 : Nat) (l0 : List Int) (r : List Int) (w : World) (hr0 : Kd.C (Kd.int .i64) w A0 l0.length l0) (hc0 : l0.length ≤ c0) (h : spec_l1Own.f l0 = some r) :
  Calls Try.prog 124 #[.slice A0 l0.length c0] w fun e w' => ∃ v0_ : Value, e = .returned (v0_) ∧ Kd.R (Kd.int .i64) 3 w' w.heap.size (fun _ => True) v0_ r ∧ Below w.heap.size w w' := by
 have HR0 := zK hr0
 have HC0 := zK hc0
 clear hr0 hc0
 have HB := zK (Below.refl w.heap.size w)
 have H : ((some (([] : List Int) : List Int)).bind fun y579 => (if y579.length + l0.length < 17592186044416 then (some (y579 ++ l0)) else (none))) = some r := h
 clear h
 obtain ⟨y579, hy579⟩ : ∃ y_ : List Int, y_ = (([] : List Int)) := ⟨_, rfl⟩
 replace H : (if y579.length + l0.length < 17592186044416 then (some (y579 ++ l0)) else (none)) = some r := by first | (rw [hy579]; with_reducible exact H) | (have H2_ := (Option.bind_some _ _).symm.trans H; rw [hy579]; with_reducible exact H2_) | (have H2_ := (Option.bind_some _ _).symm.trans H; with_reducible exact H2_) | with_reducible exact H | (rw [hy579]; exact H) | exact H
 have Ny579 := zK hy579
 clear hy579
 by_cases c2 : y579.length + l0.length < 17592186044416
 ·rw [if_pos c2] at H
  have LMc2 := zK c2
  clear c2
  obtain ⟨y582, hy582⟩ : ∃ y_ : List Int, y_ = (y579 ++ l0) := ⟨_, rfl⟩
  replace H : (some y582) = some r := by first | (rw [hy582]; with_reducible exact H) | (have H2_ := (Option.bind_some _ _).symm.trans H; rw [hy582]; with_reducible exact H2_) | (have H2_ := (Option.bind_some _ _).symm.trans H; with_reducible exact H2_) | with_reducible exact H | (rw [hy582]; exact H) | exact H
  have Ny582 := zK hy582
  clear hy582
  obtain rfl := Option.some.inj H
  go_enter Try.func124, Try.ntmps124
  go_wp2_with (first | ((with_reducible refine gate_dst (N := 3) rfl ?_); refine Kd.R_lit (Kd.int .i64) _ 3 ?hg (N := 3) ?hd (xs := ([] : List Int)) (inner := []) (ok := fun _ => True) (okp := fun _ => True) ?hr ?hp (fun _ hk => hk) trivial (Below.refl _ _) (Nat.le_refl _) (by simp) ?_; (case hd => rfl); (case hg => rfl); (case hr => first | (go_simp; done) | (go_simp; rfl)); (case hp => exact (Reps.none _ _)); intro v580 w3 ho4 hb hg_ hnew_; clear hg_ hnew_; (first | rw [← Ny579.out] at ho4 | (simp only [Int.reduceToNat] at ho4; rw [← Ny579.out] at ho4)); have n0_ := zK (Kd.R_lower ho4 (zN (by repeat (first | (with_reducible first | exact HB.out | apply zA | apply zB | apply zC) | exact HB.out)))); have n1_ := zK (zL (by repeat (first | (with_reducible first | exact HB.out | apply zA | apply zB | apply zC) | exact HB.out)) hb); clear HB; have HO581 := n0_; have HB := n1_; clear n0_ n1_; clear hb ho4) | ((with_reducible refine gate_builtin (b := .append) (xs := #[.tmp 3, .tmp 4]) rfl ?_); at_builtin; refine Kd.R_append_rows (Kd.int .i64) (w0 := w) w.heap.size rfl (.tmp 3) (.tmp 4) 31 3 (.int .i64 0) 8 rfl Try.underlying31 info3 rfl (by decide) (by omega) v580 y579 l0 _ _ _ (fun _ => True) (fun _ => False) rfl rfl ?aO ?aR (fun _ _ h => h) (fun _ h => h.elim) ?aF ?aB ?aS ?aL ?_; (case aR => repeat (first | exact (Kd.C_below HR0.out HB.out) | (with_reducible refine Kd.C_alloc ?_ _) | (with_reducible refine Kd.C_drewN ?_ _) | (with_reducible refine Kd.C_drew ?_))); (case aB => exact (by repeat (first | (with_reducible first | exact HB.out | apply zA | apply zB | apply zC) | exact HB.out))); (case aF => exact (fun _ _ => trivial)); (case aO => exact (by (with_reducible repeat (first | apply Kd.R_alloc | apply Kd.R_drewN | apply Kd.R_drew)); exact HO581.out)); (case aS => exact (zN (by repeat (first | (with_reducible first | exact HB.out | apply zA | apply zB | apply zC) | exact HB.out)))); (case aL => have := LMc2.out; omega); intro v583 w5 ho hb hg hat; rw [← Ny582.out] at ho; have n0_ := zK (hb); have n1_ := zK (ho); clear HB; clear HO581; have HB := n0_; have HO584 := n1_; clear n0_ n1_; clear ho hb hg hat))
  go_ret
  exact ⟨_, by first | rfl | (simp [errW_none, errW_some] <;> rfl) | (simp [*, errW_none, errW_some] <;> rfl), by (with_reducible repeat (first | apply Kd.R_alloc | apply Kd.R_drewN | apply Kd.R_drew)); exact HO584.out, by repeat (first | (with_reducible first | exact HB.out | apply zA | apply zB | apply zC) | exact HB.out)⟩
 ·rw [if_neg c2] at H
  exact absurd H (by simp)

/-! ### spec_eqChanged: function 91 -/
def spec_eqChanged.l0 : Nat → List (S47) → List Int → Int → Option (Int)
 | 0, _, _, _ => none
 | k + 1, x0, x9, x10 => if x10 < (x0.length : Int) then (if 0 ≤ x10 then ((spec_exOne.f ((rd_T47 x0 x10).f0)).bind fun t592 => (if t592 = true then (if 0 ≤ ((rd_T47 x0 x10).f1) then (if ((rd_T47 x0 x10).f1) < (x9.length : Int) then ((spec_exApply.f ((rd_T47 x0 x10).f0) (rd x9 ((rd_T47 x0 x10).f1)) 0).bind fun t594 => (if x10 < (x9.length : Int) then (spec_eqChanged.l0 k x0 (x9.set (x10 : Int).toNat t594) (wrap64 (x10 + 1))) else (none))) else (none)) else (none)) else ((spec_exTwo.f k ((rd_T47 x0 x10).f0)).bind fun t596 => (if t596 = true then (if 0 ≤ ((rd_T47 x0 x10).f1) then (if ((rd_T47 x0 x10).f1) < (x9.length : Int) then (if 0 ≤ ((rd_T47 x0 x10).f2) then (if ((rd_T47 x0 x10).f2) < (x9.length : Int) then ((spec_exApply.f ((rd_T47 x0 x10).f0) (rd x9 ((rd_T47 x0 x10).f1)) (rd x9 ((rd_T47 x0 x10).f2))).bind fun t599 => (if x10 < (x9.length : Int) then (spec_eqChanged.l0 k x0 (x9.set (x10 : Int).toNat t599) (wrap64 (x10 + 1))) else (none))) else (none)) else (none)) else (none)) else (none)) else (spec_eqChanged.l0 k x0 x9 (wrap64 (x10 + 1))))))) else (none)) else (if 0 ≤ (wrap64 ((x9.length : Int) - 1)) then (if (wrap64 ((x9.length : Int) - 1)) < (x9.length : Int) then (some (rd x9 (wrap64 ((x9.length : Int) - 1)))) else (none)) else (none))
def spec_eqChanged.f (k : Nat) (l0 : List (S47)) (l1 : List Int) (a2 : Int) (a3 : Int) : Option (Int) := (spec_l1Own.f l1).bind fun t585 => (if 0 ≤ a2 then (if a2 < (t585.length : Int) then (spec_eqChanged.l0 k l0 (t585.set (a2 : Int).toNat a3) (wrap64 (a2 + 1))) else (none)) else (none))
theorem spec_eqChanged.mono_l : ∀ k, (∀ y0 y1 y2, LeO (spec_eqChanged.l0 k y0 y1 y2) (spec_eqChanged.l0 (k + 1) y0 y1 y2))
 | 0 => fun _ _ _ r h => by simp [spec_eqChanged.l0] at h
 | k + 1 => by
  have ih0 := spec_eqChanged.mono_l k
  ·intro y0 y1 y2
   unfold spec_eqChanged.l0
   repeat' first
   | (with_reducible exact ih0 _ _ _)
   | (with_reducible exact spec_exTwo.mono _ _)
   | (with_reducible exact LeO.refl _)
   | (with_reducible exact LeO.none _)
   | (with_reducible refine LeO.ite ?_ ?_)
   | (with_reducible refine LeO.bind ?_ (fun _ => ?_))
   | exact ih0 _ _ _
   | exact spec_exTwo.mono _ _
   | exact LeO.none _
   | refine LeO.ite ?_ ?_
   | refine LeO.bind ?_ (fun _ => ?_)
theorem spec_eqChanged.mono : ∀ a0 a1 a2 a3 k, LeO (spec_eqChanged.f k a0 a1 a2 a3) (spec_eqChanged.f (k + 1) a0 a1 a2 a3) := by
 intro a0 a1 a2 a3 k
 have ih0 := spec_eqChanged.mono_l k
 unfold spec_eqChanged.f
 repeat' first
   | (with_reducible exact ih0 _ _ _)
   | (with_reducible exact spec_exTwo.mono _ _)
   | (with_reducible exact LeO.refl _)
   | (with_reducible exact LeO.none _)
   | (with_reducible refine LeO.ite ?_ ?_)
   | (with_reducible refine LeO.bind ?_ (fun _ => ?_))
   | exact ih0 _ _ _
   | exact spec_exTwo.mono _ _
   | exact LeO.none _
   | refine LeO.ite ?_ ?_
   | refine LeO.bind ?_ (fun _ => ?_)
def spec_eqChanged.T8 : Bool × List (List Nat × List Nat) := (true, [([], []), ([], []), ([], []), ([2], [2]), ([], []), ([], []), ([5], [5]), ([4, 6], [4, 6]), ([7], [7]), ([3, 8], [3, 8]), ([0, 1, 0, 1, 2, 3, 4, 5, 6, 7, 8, 9], [0, 1]), ([10, 9, 9, 0, 1, 2, 3, 4, 5, 6, 7, 8, 9], [9, 10])])
def spec_eqChanged.B8 : List Nat := [0, 0, 0, 4, 0, 0, 32, 112, 240, 508, 1023, 2047]
theorem spec_eqChanged.tab8 : rtab .any (opsOf Try.f91 8) = spec_eqChanged.T8 := by kernel_rfl
theorem spec_eqChanged.bits8 : waitsOk spec_eqChanged.T8.2 spec_eqChanged.B8 = true := by kernel_rfl
def spec_eqChanged.T10 : Bool × List (List Nat × List Nat) := (true, [([], []), ([], []), ([], []), ([2], [2]), ([], []), ([], []), ([5], [5]), ([4, 6], [4, 6]), ([7], [7]), ([], []), ([], []), ([10], [10]), ([9, 11], [9, 11]), ([12], [12]), ([3, 8, 13], [3, 8, 13]), ([0, 1, 0, 1, 2, 3, 4, 5, 6, 7, 8, 9, 10, 11, 12, 13, 14], [0, 1]), ([15, 14, 14, 0, 1, 2, 3, 4, 5, 6, 7, 8, 9, 10, 11, 12, 13, 14], [14, 15])])
def spec_eqChanged.B10 : List Nat := [0, 0, 0, 4, 0, 0, 32, 112, 240, 0, 0, 1024, 3584, 7680, 16380, 32767, 65535]
theorem spec_eqChanged.tab10 : rtab .any (opsOf Try.f91 10) = spec_eqChanged.T10 := by kernel_rfl
theorem spec_eqChanged.bits10 : waitsOk spec_eqChanged.T10.2 spec_eqChanged.B10 = true := by kernel_rfl
set_option maxHeartbeats 8000000 in
set_option maxRecDepth 100000 in
theorem spec_eqChanged.calls (k : Nat) (A0 : Option Addr) (c0 : Nat) (l0 : List (S47)) (A1 : Option Addr) (c1 : Nat) (l1 : List Int) (a2 : Int) (a3 : Int) (r : Int) (w : World) (hr0 : Kd.C k47 w A0 l0.length l0) (hc0 : l0.length ≤ c0) (hr1 : Kd.C (Kd.int .i64) w A1 l1.length l1) (hc1 : l1.length ≤ c1) (h : spec_eqChanged.f k l0 l1 a2 a3 = some r) :
  Calls Try.prog 91 #[.slice A0 l0.length c0, .slice A1 l1.length c1, .int .i64 a2, .int .i64 a3] w fun e w' => e = .returned (.int .i64 r) ∧ Below w.heap.size w w' := by
 have hu47 := Try.underlying47
 have HR0 := zK hr0
 have HC0 := zK hc0
 clear hr0 hc0
 have HR1 := zK hr1
 have HC1 := zK hc1
 clear hr1 hc1
 have HB := zK (Below.refl w.heap.size w)
 have H : ((spec_l1Own.f l1).bind fun t585 => (if 0 ≤ a2 then (if a2 < (t585.length : Int) then (spec_eqChanged.l0 k l0 (t585.set (a2 : Int).toNat a3) (wrap64 (a2 + 1))) else (none)) else (none))) = some r := h
 clear h
 replace H := Option.bind_eq_some_iff.mp H
 obtain ⟨t585, A50, H⟩ := H
 replace H : (if 0 ≤ a2 then (if a2 < (t585.length : Int) then (spec_eqChanged.l0 k l0 (t585.set (a2 : Int).toNat a3) (wrap64 (a2 + 1))) else (none)) else (none)) = some r := H
 have A5 := zK A50
 clear A50
 by_cases c6 : 0 ≤ a2
 ·rw [if_pos c6] at H
  have c6b0 : decide (0 ≤ a2) = true := decide_eq_true c6
  clear c6
  by_cases c7 : a2 < (t585.length : Int)
  ·rw [if_pos c7] at H
   have c7b0 : decide (a2 < (t585.length : Int)) = true := decide_eq_true c7
   clear c7
   obtain ⟨y588, hy588⟩ : ∃ y_ : List Int, y_ = (t585.set (a2 : Int).toNat a3) := ⟨_, rfl⟩
   replace H : (spec_eqChanged.l0 k l0 y588 (wrap64 (a2 + 1))) = some r := by first | (rw [hy588]; with_reducible exact H) | (have H2_ := (Option.bind_some _ _).symm.trans H; rw [hy588]; with_reducible exact H2_) | (have H2_ := (Option.bind_some _ _).symm.trans H; with_reducible exact H2_) | with_reducible exact H | (rw [hy588]; exact H) | exact H
   have Ny588 := zK hy588
   clear hy588
   have H' := zK H
   clear H
   go_enter Try.func91, Try.ntmps91
   go_wp2_with (first | ((with_reducible refine gate_callee (f := 124) rfl ?_); refine goesL_ (some 13) rfl rfl Try.func124 (by kernel_rfl) rfl #[.slice A1 l1.length c1] rfl (by (try simp only [z6, z7, z8]); first | done | rfl | (simp only [z4, z5]; rfl)) ?_; (with_reducible refine (spec_l1Own.calls _ _ l1 t585 _ ?side1 ?side2 A5.out).mono ?_); (case side1 => repeat (first | exact HR1.out | (with_reducible refine Kd.C_alloc ?_ _) | (with_reducible refine Kd.C_drewN ?_ _) | (with_reducible refine Kd.C_drew ?_))); (case side2 => exact HC1.out); rintro e w9 ⟨v586, rfl, ho0, hb⟩; refine ⟨_, rfl, ?_⟩; have n0_ := zK (Kd.R_lower ho0 (zN (by repeat (first | (with_reducible first | exact HB.out | apply zA | apply zB | apply zC) | exact HB.out)))); have n1_ := zK (zL (by repeat (first | (with_reducible first | exact HB.out | apply zA | apply zB | apply zC) | exact HB.out)) hb); clear HB; have HO587 := n0_; have HB := n1_; clear n0_ n1_; (try clear hb); (try clear hb2); (try clear hk); (try clear hi); (try clear ho0); have p8 : 0 ≤ (a2 : Int) := zo; have q8 : (a2 : Int) < ((t585.length : Int) : Int) := zo; obtain ⟨go8, co8, eo8, gb8, gl8, cl8, HG8⟩ := Kd.R_form HO587.out (by omega); (first | cases eo8 | (injection eo8 with ea_ en_ ec_; (first | subst ea_ | (injection ea_ with ea_; subst ea_)); subst ec_; clear en_)); have GB8 := zK gb8; have GG8 := zK HG8; clear gb8 gl8 HG8; obtain ⟨hx8_0, hf8_0⟩ := Kd.R_celln 0 HO587.out (a2 : Int) p8 q8; replace p8 := eq_true p8; replace q8 := eq_true q8; obtain ⟨hy10_, hz10_⟩ := Kd.R_celln 0 HO587.out (a2 : Int) (zo) (zo); have HP10 := Kd.R_putg HO587.out (a2 : Int) a3) | ((with_reducible refine gate_store (t := 3) (p := 17) rfl ?_); refine store_event (t := 3) (p := 17) (v := ?vo_w11) (w1 := (w9.setCell ⟨go8, (a2 : Int).toNat, none⟩ (.int .i64 a3))) ?hg ?ho ?hn ?hr ?_; (case ho => rfl); (case hg => rfl); (case hn => rfl); (case hr => first | (go_simp; done) | (go_simp; rfl)); intro w11 hw; have hg : w9.grownBy w11 (some go8) := (by rw [hw]; exact HP10.2); have hp_ : Kd.R (Kd.int .i64) 3 w11 w.heap.size (fun _ => True) (.slice (some ⟨go8, 0, none⟩) t585.length co8) y588 := (by rw [hw, Ny588.out]; exact HP10.1); clear HP10; have n0_ := zK (hp_); have n1_ := zK ((by rw [hw]; exact zD (HB.out) GB8.out : Below w.heap.size w w11)); clear HO587; clear HB; have HO587 := n0_; have HB := n1_; clear n0_ n1_; clear hg hw hp_))
   go_loopg [10] k (fun kq v10 w' => ∃ (x9_1 : List Int) (x10_1 : Int), v10 = .int .i64 x10_1 ∧ Aside0 (spec_eqChanged.l0 kq l0 x9_1 x10_1 = some r) ∧ Aside0 (kq ≤ k) ∧ Aside0 (Kd.R (Kd.int .i64) 3 w' w.heap.size (fun _ => True) (.slice (some ⟨go8, 0, none⟩) t585.length co8) x9_1) ∧ Aside0 (Below w.heap.size w w'))
   case atStart => exact ⟨(y588), (wrap64 (a2 + 1)), (by first | rfl | (simp; done) | (simp [*]; done)), H', ⟨Nat.le_refl _⟩, ⟨by (with_reducible repeat (first | apply Kd.R_alloc | apply Kd.R_drewN | apply Kd.R_drew)); exact HO587.out⟩, ⟨by repeat (first | (with_reducible first | exact HB.out | apply zA | apply zB | apply zC) | exact HB.out)⟩⟩
   case round =>
    clear H'
    try clear c1
    try clear p2
    try clear c6
    try clear c6b0
    try clear p6
    try clear c7
    try clear c7b0
    try clear p8
    try clear q8
    try clear hx8
    try clear hf8
    try clear c9
    try clear hx8_0
    try clear p8
    try clear q8
    obtain ⟨x9_1, x10_1, rfl, HA, HK1, HO_9, HB⟩ := hrel
    have hl9_1 := (Kd.R_reads' HO_9.out).1
    rw [hl9_1] at HO_9
    (try simp only [hl9_1])
    cases gk with
    | zero => exact absurd HA.out (by simp [spec_eqChanged.l0])
    | succ k1 =>
     have H := HA.out
     clear HA
     simp only [spec_eqChanged.l0] at H
     by_cases c12 : x10_1 < (l0.length : Int)
     ·rw [if_pos c12] at H
      have c12b0 : decide (x10_1 < (l0.length : Int)) = true := decide_eq_true c12
      clear c12
      by_cases c13 : 0 ≤ x10_1
      ·rw [if_pos c13] at H
       have c13b0 : decide (0 ≤ x10_1) = true := decide_eq_true c13
       clear c13
       replace H := Option.bind_eq_some_iff.mp H
       obtain ⟨t592, A140, H⟩ := H
       replace H : (if t592 = true then (if 0 ≤ ((rd_T47 l0 x10_1).f1) then (if ((rd_T47 l0 x10_1).f1) < (x9_1.length : Int) then ((spec_exApply.f ((rd_T47 l0 x10_1).f0) (rd x9_1 ((rd_T47 l0 x10_1).f1)) 0).bind fun t594 => (if x10_1 < (x9_1.length : Int) then (spec_eqChanged.l0 k1 l0 (x9_1.set (x10_1 : Int).toNat t594) (wrap64 (x10_1 + 1))) else (none))) else (none)) else (none)) else ((spec_exTwo.f k1 ((rd_T47 l0 x10_1).f0)).bind fun t596 => (if t596 = true then (if 0 ≤ ((rd_T47 l0 x10_1).f1) then (if ((rd_T47 l0 x10_1).f1) < (x9_1.length : Int) then (if 0 ≤ ((rd_T47 l0 x10_1).f2) then (if ((rd_T47 l0 x10_1).f2) < (x9_1.length : Int) then ((spec_exApply.f ((rd_T47 l0 x10_1).f0) (rd x9_1 ((rd_T47 l0 x10_1).f1)) (rd x9_1 ((rd_T47 l0 x10_1).f2))).bind fun t599 => (if x10_1 < (x9_1.length : Int) then (spec_eqChanged.l0 k1 l0 (x9_1.set (x10_1 : Int).toNat t599) (wrap64 (x10_1 + 1))) else (none))) else (none)) else (none)) else (none)) else (none)) else (spec_eqChanged.l0 k1 l0 x9_1 (wrap64 (x10_1 + 1)))))) = some r := H
       have A14 := zK A140
       clear A140
       by_cases c15 : t592 = true
       ·subst c15
        have H1 : (if 0 ≤ ((rd_T47 l0 x10_1).f1) then (if ((rd_T47 l0 x10_1).f1) < (x9_1.length : Int) then ((spec_exApply.f ((rd_T47 l0 x10_1).f0) (rd x9_1 ((rd_T47 l0 x10_1).f1)) 0).bind fun t594 => (if x10_1 < (x9_1.length : Int) then (spec_eqChanged.l0 k1 l0 (x9_1.set (x10_1 : Int).toNat t594) (wrap64 (x10_1 + 1))) else (none))) else (none)) else (none)) = some r := by rw [if_pos rfl] at H; exact H
        clear H
        have H := H1
        clear H1
        by_cases c16 : 0 ≤ ((rd_T47 l0 x10_1).f1)
        ·rw [if_pos c16] at H
         have c16b0 : decide (0 ≤ ((rd_T47 l0 x10_1).f1)) = true := decide_eq_true c16
         clear c16
         by_cases c17 : ((rd_T47 l0 x10_1).f1) < (x9_1.length : Int)
         ·rw [if_pos c17] at H
          have c17b0 : decide (((rd_T47 l0 x10_1).f1) < (x9_1.length : Int)) = true := decide_eq_true c17
          clear c17
          replace H := Option.bind_eq_some_iff.mp H
          obtain ⟨t594, A180, H⟩ := H
          replace H : (if x10_1 < (x9_1.length : Int) then (spec_eqChanged.l0 k1 l0 (x9_1.set (x10_1 : Int).toNat t594) (wrap64 (x10_1 + 1))) else (none)) = some r := H
          have A18 := zK A180
          clear A180
          by_cases c19 : x10_1 < (x9_1.length : Int)
          ·rw [if_pos c19] at H
           have c19b0 : decide (x10_1 < (x9_1.length : Int)) = true := decide_eq_true c19
           clear c19
           obtain ⟨y595, hy595⟩ : ∃ y_ : List Int, y_ = (x9_1.set (x10_1 : Int).toNat t594) := ⟨_, rfl⟩
           replace H : (spec_eqChanged.l0 k1 l0 y595 (wrap64 (x10_1 + 1))) = some r := by first | (rw [hy595]; with_reducible exact H) | (have H2_ := (Option.bind_some _ _).symm.trans H; rw [hy595]; with_reducible exact H2_) | (have H2_ := (Option.bind_some _ _).symm.trans H; with_reducible exact H2_) | with_reducible exact H | (rw [hy595]; exact H) | exact H
           have Ny595 := zK hy595
           clear hy595
           have H' := zK H
           clear H
           have p590 : 0 ≤ (x10_1 : Int) := zo
           have q590 : x10_1 < (l0.length : Int) := zo
           obtain ⟨ad590, e590, hx590_0, hx590_1, hx590_2, hx590_3⟩ := at_T47 HR0.out x10_1 p590 q590
           cases e590
           replace hx590_0 := zt HB.out hx590_0
           replace hx590_1 := zt HB.out hx590_1
           replace hx590_2 := zt HB.out hx590_2
           replace hx590_3 := zt HB.out hx590_3
           replace p590 := eq_true p590
           replace q590 := eq_true q590
           try go_wp2_with (first | ((with_reducible refine gate_dst (N := 11) rfl ?_); refine box_event ?hg (N := 11) ?hd (cs := #[.string (⟨#[]⟩ : ByteArray), .int .i64 0, .int .i64 0, .int .i64 0]) (t := 47) ?hr ?_; (case hd => rfl); (case hg => rfl); (case hr => first | (go_simp; done) | (go_simp; rfl)); intro gb591 hg w21 hbox hb; have n0_ := zK (Kd.R_below (by (with_reducible repeat (first | apply Kd.R_alloc | apply Kd.R_drewN | apply Kd.R_drew)); exact HO_9.out) hb); have n1_ := zK (zL (by repeat (first | (with_reducible first | exact HB.out | apply zA | apply zB | apply zC) | exact HB.out)) hb); have n2_ := zK (hbox); have n3_ := zK ((by rw [hg]; exact (zN (by repeat (first | (with_reducible first | exact HB.out | apply zA | apply zB | apply zC) | exact HB.out))) : w.heap.size ≤ gb591)); have n4_ := zK ((by rw [hg]; exact (zN (by repeat (first | (with_reducible first | exact HB.out | apply zA | apply zB | apply zC) | exact HB.out))) : w.heap.size ≤ gb591)); clear HO_9; clear HB; have HO_9 := n0_; have HB := n1_; have BK591 := n2_; have GW591 := n3_; have GE591 := n4_; clear n0_ n1_ n2_ n3_ n4_; clear hb hbox hg; have hcz22_0 : w21.cell? ⟨gb591, 0, none⟩ = some (.string (⟨#[]⟩ : ByteArray)) := (zI BK591.out 0).trans rfl; have hcz22_1 : w21.cell? ⟨gb591, 1, none⟩ = some (.int .i64 0) := (zI BK591.out 1).trans rfl; have hcz22_2 : w21.cell? ⟨gb591, 2, none⟩ = some (.int .i64 0) := (zI BK591.out 2).trans rfl; have hcz22_3 : w21.cell? ⟨gb591, 3, none⟩ = some (.int .i64 0) := (zI BK591.out 3).trans rfl; have hfz22_0 := zH BK591.out 0; have hfz22_1 := zH BK591.out 1; have hfz22_2 := zH BK591.out 2; have hfz22_3 := zH BK591.out 3) | ((with_reducible refine gate_callee (f := 80) rfl ?_); refine goesL_ (some 33) rfl rfl Try.func80 (by kernel_rfl) rfl #[.string ((rd_T47 l0 x10_1).f0)] rfl (by (try simp only [z6, z7, z8]); first | done | rfl | (simp only [z4, z5]; rfl)) ?_; (with_reducible refine (spec_exOne.calls ((rd_T47 l0 x10_1).f0) true _ A14.out).mono ?_); rintro e w' ⟨rfl, ⟨nd, rfl⟩⟩; refine ⟨_, rfl, ?_⟩))
           have n0_ : Aside0 (Kd.R (Kd.int .i64) 3 ((((w21.setCell ⟨gb591, 0, none⟩ (.string ((rd_T47 l0 x10_1).f0))).setCell ⟨gb591, 1, none⟩ (.int .i64 ((rd_T47 l0 x10_1).f1))).setCell ⟨gb591, 2, none⟩ (.int .i64 ((rd_T47 l0 x10_1).f2))).setCell ⟨gb591, 3, none⟩ (.int .i64 ((rd_T47 l0 x10_1).f3))) w.heap.size (fun _ => True) (.slice (some ⟨go8, 0, none⟩) x9_1.length co8) x9_1) := ⟨by (with_reducible repeat (first | apply Kd.R_alloc | apply Kd.R_drewN | apply Kd.R_drew)); exact Kd.R_mono (Kd.R_far (p := ⟨gb591, 3, none⟩) (Kd.R_far (p := ⟨gb591, 2, none⟩) (Kd.R_far (p := ⟨gb591, 1, none⟩) (Kd.R_far (p := ⟨gb591, 0, none⟩) (Kd.R_types HO_9.out BK591.out (by decide)) (fun _ hk => hk.2) (.string ((rd_T47 l0 x10_1).f0))) (fun _ hk => hk.2) (.int .i64 ((rd_T47 l0 x10_1).f1))) (fun _ hk => hk.2) (.int .i64 ((rd_T47 l0 x10_1).f2))) (fun _ hk => hk.2) (.int .i64 ((rd_T47 l0 x10_1).f3))) (fun _ hk => trivial)⟩
           have n1_ : Aside0 (((((w21.setCell ⟨gb591, 0, none⟩ (.string ((rd_T47 l0 x10_1).f0))).setCell ⟨gb591, 1, none⟩ (.int .i64 ((rd_T47 l0 x10_1).f1))).setCell ⟨gb591, 2, none⟩ (.int .i64 ((rd_T47 l0 x10_1).f2))).setCell ⟨gb591, 3, none⟩ (.int .i64 ((rd_T47 l0 x10_1).f3))).heap[gb591]? = some (.cells #[.string ((rd_T47 l0 x10_1).f0), .int .i64 ((rd_T47 l0 x10_1).f1), .int .i64 ((rd_T47 l0 x10_1).f2), .int .i64 ((rd_T47 l0 x10_1).f3)] 47 (0, 0))) := ⟨by (with_reducible repeat (first | refine zE ?_ _ | refine zF ?_ | refine zG ?_ _)); refine blk_put (cs := #[.string ((rd_T47 l0 x10_1).f0), .int .i64 ((rd_T47 l0 x10_1).f1), .int .i64 ((rd_T47 l0 x10_1).f2), .int .i64 0]) ?_ 3 _ rfl; (with_reducible repeat (first | refine zE ?_ _ | refine zF ?_ | refine zG ?_ _)); refine blk_put (cs := #[.string ((rd_T47 l0 x10_1).f0), .int .i64 ((rd_T47 l0 x10_1).f1), .int .i64 0, .int .i64 0]) ?_ 2 _ rfl; (with_reducible repeat (first | refine zE ?_ _ | refine zF ?_ | refine zG ?_ _)); refine blk_put (cs := #[.string ((rd_T47 l0 x10_1).f0), .int .i64 0, .int .i64 0, .int .i64 0]) ?_ 1 _ rfl; (with_reducible repeat (first | refine zE ?_ _ | refine zF ?_ | refine zG ?_ _)); refine blk_put (cs := #[.string (⟨#[]⟩ : ByteArray), .int .i64 0, .int .i64 0, .int .i64 0]) ?_ 0 _ rfl; (with_reducible repeat (first | refine zE ?_ _ | refine zF ?_ | refine zG ?_ _)); exact BK591.out⟩
           have n2_ : Aside0 (Below w.heap.size w ((((w21.setCell ⟨gb591, 0, none⟩ (.string ((rd_T47 l0 x10_1).f0))).setCell ⟨gb591, 1, none⟩ (.int .i64 ((rd_T47 l0 x10_1).f1))).setCell ⟨gb591, 2, none⟩ (.int .i64 ((rd_T47 l0 x10_1).f2))).setCell ⟨gb591, 3, none⟩ (.int .i64 ((rd_T47 l0 x10_1).f3)))) := ⟨by repeat (first | (with_reducible first | exact HB.out | apply zA | apply zB | apply zC | refine zD ?_ GE591.out) | exact HB.out)⟩
           (try clear HO_9)
           (try clear BK591)
           (try clear HB)
           generalize ((((w21.setCell ⟨gb591, 0, none⟩ (.string ((rd_T47 l0 x10_1).f0))).setCell ⟨gb591, 1, none⟩ (.int .i64 ((rd_T47 l0 x10_1).f1))).setCell ⟨gb591, 2, none⟩ (.int .i64 ((rd_T47 l0 x10_1).f2))).setCell ⟨gb591, 3, none⟩ (.int .i64 ((rd_T47 l0 x10_1).f3))) = w23 at n0_ n1_ n2_ ⊢
           have HO_9 := n0_
           have BK591 := n1_
           have HB := n2_
           clear n0_ n1_ n2_
           (try (rw [drewN_self w23]; generalize hq_ : World.drewN w23 _ = w23; have n0_ : Aside0 (Kd.R (Kd.int .i64) 3 w23 w.heap.size (fun _ => True) (.slice (some ⟨go8, 0, none⟩) x9_1.length co8) x9_1) := ⟨by rw [← hq_]; exact (by (with_reducible repeat (first | apply Kd.R_alloc | apply Kd.R_drewN | apply Kd.R_drew)); exact HO_9.out)⟩; have n1_ : Aside0 (w23.heap[gb591]? = some (.cells #[.string ((rd_T47 l0 x10_1).f0), .int .i64 ((rd_T47 l0 x10_1).f1), .int .i64 ((rd_T47 l0 x10_1).f2), .int .i64 ((rd_T47 l0 x10_1).f3)] 47 (0, 0))) := ⟨by rw [← hq_]; exact (by (with_reducible repeat (first | refine zE ?_ _ | refine zF ?_ | refine zG ?_ _)); exact BK591.out)⟩; have n2_ : Aside0 (Below w.heap.size w w23) := ⟨by rw [← hq_]; exact (by repeat (first | (with_reducible first | exact HB.out | apply zA | apply zB | apply zC | refine zD ?_ GE591.out) | exact HB.out))⟩; clear HO_9 BK591 HB hq_; have HO_9 := n0_; have BK591 := n1_; have HB := n2_; clear n0_ n1_ n2_))
           have n0_ := zK (Kd.R_drew HO_9.out)
           have n1_ := zK (zF BK591.out)
           have n2_ := zK (zC HB.out)
           clear HO_9
           clear BK591
           clear HB
           have HO_9 := n0_
           have BK591 := n1_
           have HB := n2_
           clear n0_ n1_ n2_
           have p593 : 0 ≤ (((rd_T47 l0 x10_1).f1) : Int) := zo
           have q593 : ((rd_T47 l0 x10_1).f1) < (x9_1.length : Int) := zo
           obtain ⟨ad593, e593, hx593_0⟩ := Kd.at_int (Kd.R_reads' HO_9.out).2.2 ((rd_T47 l0 x10_1).f1) p593 q593
           obtain rfl : (⟨go8, 0, none⟩ : Addr) = ad593 := (by injection e593)
           (first | simp only [add_plain] at hx593_0 | simp only [add_at] at hx593_0 | simp only [Addr.add, Nat.zero_add] at hx593_0 | skip)
           replace p593 := eq_true p593
           replace q593 := eq_true q593
           refine start_ (n := 12) (S := fun w' => w'.cell? ⟨gb591, 0, none⟩ = some (.string ((rd_T47 l0 x10_1).f0)) ∧ w'.cell? ⟨gb591, 1, none⟩ = some (.int .i64 ((rd_T47 l0 x10_1).f1)) ∧ w'.cell? ⟨gb591, 2, none⟩ = some (.int .i64 ((rd_T47 l0 x10_1).f2)) ∧ w'.cell? ⟨gb591, 3, none⟩ = some (.int .i64 ((rd_T47 l0 x10_1).f3)) ∧ w'.cell? ⟨go8, (((rd_T47 l0 x10_1).f1)).toNat, none⟩ = some (.int .i64 (rd x9_1 ((rd_T47 l0 x10_1).f1)))) (ds := [11]) #[false, false, false, false, false, false, false, false, false, false, false, false] (by kernel_rfl) rfl rfl ⟨(zI BK591.out 0).trans rfl, (zI BK591.out 1).trans rfl, (zI BK591.out 2).trans rfl, (zI BK591.out 3).trans rfl, hx593_0⟩ (fun hHeld => ?_); refine with_tabW spec_eqChanged.tab8 spec_eqChanged.bits8 (fun HT_ HW_ => ?_)
           generalize w23.drew = w24 at HO_9 BK591 HB hx593_0 hHeld ⊢
           refine pure_ (i := 0) (N := some 34) (v := ?_) (a' := ?_) #[true, false, false, false, false, false, false, false, false, false, false, false] rfl rfl (any_of HT_.out (by kernel_rfl)) (fun _ _ _ h => h) (Or.inl ⟨by rfl, ?_⟩) ?_ ?_
           rotate_left
           ·intro w'
            go_simp
            with_reducible rfl
           rotate_left
           ·simp only [Act.put, z1, z2, z3, i64_w, i32_w]
            rfl
           refine pure_ (i := 1) (N := some 35) (v := ?_) (a' := ?_) #[true, true, false, false, false, false, false, false, false, false, false, false] rfl rfl (any_of HT_.out (by kernel_rfl)) (fun _ _ _ h => h) (Or.inl ⟨by rfl, ?_⟩) ?_ ?_
           rotate_left
           ·intro w'
            go_simp
            with_reducible rfl
           rotate_left
           ·simp only [Act.put, z1, z2, z3, i64_w, i32_w]
            rfl
           refine pure_ (i := 2) (N := some 36) (v := ?_) (a' := ?_) #[true, true, true, false, false, false, false, false, false, false, false, false] rfl rfl (any_of HT_.out (by kernel_rfl)) (fun _ _ _ h => h) (Or.inl ⟨by rfl, ?_⟩) ?_ ?_
           rotate_left
           ·intro w'
            go_simp
            with_reducible rfl
           rotate_left
           ·simp only [Act.put, z1, z2, z3, i64_w, i32_w]
            rfl
           refine pure_ (i := 4) (N := some 38) (v := ?_) (a' := ?_) #[true, true, true, false, true, false, false, false, false, false, false, false] rfl rfl (any_of HT_.out (by kernel_rfl)) (fun _ _ _ h => h) (Or.inl ⟨by rfl, ?_⟩) ?_ ?_
           rotate_left
           ·intro w'
            go_simp
            with_reducible rfl
           rotate_left
           ·simp only [Act.put, z1, z2, z3, i64_w, i32_w]
            rfl
           refine pure_ (i := 5) (N := some 39) (v := ?_) (a' := ?_) #[true, true, true, false, true, true, false, false, false, false, false, false] rfl rfl (any_of HT_.out (by kernel_rfl)) (fun _ _ _ h => h) (Or.inl ⟨by rfl, ?_⟩) ?_ ?_
           rotate_left
           ·intro w'
            go_simp
            with_reducible rfl
           rotate_left
           ·simp only [Act.put, z1, z2, z3, i64_w, i32_w]
            rfl
           refine take_ (i := 3) (N := some 37) (v := ?_) (a' := ?_) #[true, true, true, true, true, true, false, false, false, false, false, false] rfl rfl (take_ofW HT_.out HW_.out (by kernel_rfl)) (fun _ _ _ h => h) (Or.inl ⟨by rfl, ?_⟩) hHeld ?_ ?_
           rotate_left
           ·rintro w' ⟨s0, s1, s2, s3, s4⟩
            go_simp
            with_reducible rfl
           rotate_left
           ·simp only [Act.put, z1, z2, z3, i64_w, i32_w]
            rfl
           refine take_ (i := 6) (N := some 40) (v := ?_) (a' := ?_) #[true, true, true, true, true, true, true, false, false, false, false, false] rfl rfl (take_ofW HT_.out HW_.out (by kernel_rfl)) (fun _ _ _ h => h) (Or.inl ⟨by rfl, ?_⟩) hHeld ?_ ?_
           rotate_left
           ·rintro w' ⟨s0, s1, s2, s3, s4⟩
            go_simp
            with_reducible rfl
           rotate_left
           ·simp only [Act.put, z1, z2, z3, i64_w, i32_w]
            rfl
           refine pure_ (i := 7) (N := some 41) (v := ?_) (a' := ?_) #[true, true, true, true, true, true, true, true, false, false, false, false] rfl rfl (any_of HT_.out (by kernel_rfl)) (fun _ _ _ h => h) (Or.inl ⟨by rfl, ?_⟩) ?_ ?_
           rotate_left
           ·intro w'
            go_simp
            with_reducible rfl
           rotate_left
           ·simp only [Act.put, z1, z2, z3, i64_w, i32_w]
            rfl
           refine take_ (i := 8) (N := some 42) (v := ?_) (a' := ?_) #[true, true, true, true, true, true, true, true, true, false, false, false] rfl rfl (take_ofW HT_.out HW_.out (by kernel_rfl)) (fun _ _ _ h => h) (Or.inl ⟨by rfl, ?_⟩) hHeld ?_ ?_
           rotate_left
           ·rintro w' ⟨s0, s1, s2, s3, s4⟩
            go_simp
            with_reducible rfl
           rotate_left
           ·simp only [Act.put, z1, z2, z3, i64_w, i32_w]
            rfl
           refine one_ (i := 9) (N := some 43) #[true, true, true, true, true, true, true, true, true, true, false, false] rfl rfl (one_of HT_.out (by kernel_rfl)) (by decide) (fun K hK => ?_)
           refine goes_ Try.func87 (by kernel_rfl) rfl #[.string ((rd_T47 l0 x10_1).f0), .int .i64 (rd x9_1 ((rd_T47 l0 x10_1).f1)), .int .i64 0] (by rfl) rfl rfl (by (try simp only [z6, z7, z8]); first | done | rfl | (simp only [z4, z5]; rfl)) ?_
           with_reducible refine (spec_exApply.calls ((rd_T47 l0 x10_1).f0) (rd x9_1 ((rd_T47 l0 x10_1).f1)) 0 t594 _ A18.out).mono ?_
           rintro e w' ⟨rfl, ⟨nd, rfl⟩⟩
           refine ⟨_, rfl, ?_⟩
           have p20 : 0 ≤ (x10_1 : Int) := zo
           have q20 : (x10_1 : Int) < ((x9_1.length : Int) : Int) := zo
           obtain ⟨hx20_0, hf20_0⟩ := Kd.R_celln 0 HO_9.out (x10_1 : Int) p20 q20
           replace p20 := eq_true p20
           replace q20 := eq_true q20
           have HP25 := Kd.R_putn HO_9.out (x10_1 : Int) t594
           rw [← Ny595.out] at HP25
           have HQ25 := zK HP25
           clear HP25
           refine hK.out _ _ ⟨(zI BK591.out 0).trans rfl, (zI BK591.out 1).trans rfl, (zI BK591.out 2).trans rfl, (zI BK591.out 3).trans rfl, hHeld.2.2.2.2⟩ (fun hHeld => ?_)
           clear hK K
           refine norm_ (a' := ?_) ?_ ?_
           rotate_left
           ·show Act.put _ (some 43) _ = _
            simp only [Act.put, z1, z2, z3, i64_w, i32_w]
            rfl
           refine pure_ (i := 10) (N := some 44) (v := ?_) (a' := ?_) #[true, true, true, true, true, true, true, true, true, true, true, false] rfl rfl (any_of HT_.out (by kernel_rfl)) (fun _ _ _ h => h) (Or.inl ⟨by rfl, ?_⟩) ?_ ?_
           rotate_left
           ·intro w'
            go_simp
            with_reducible rfl
           rotate_left
           ·simp only [Act.put, z1, z2, z3, i64_w, i32_w]
            rfl
           refine last_ (i := 11) (N := none) #[true, true, true, true, true, true, true, true, true, true, true, true] rfl rfl (one_of HT_.out (by kernel_rfl)) (by decide) (fun K hK => ?_)
           refine skip_ (w1 := ?_) (by rfl) rfl ?_ ?_
           rotate_left
           ·go_simp
            rfl
           refine hK.out _ _ ?_
           clear hK K
           refine done_ (done_of HT_.out (by kernel_rfl)) ?_
           try go_wp2
           (try simp only [← hl9_1])
           go_roundg k1
           case measure => have := HK1.out; omega
           case rel => exact ⟨(y595), (wrap64 (x10_1 + 1)), (by first | rfl | (simp; done) | (simp [*]; done)), H', ⟨by have := HK1.out; omega⟩, ⟨by (try simp only [hl9_1]); (with_reducible repeat (first | apply Kd.R_alloc | apply Kd.R_drewN | apply Kd.R_drew)); exact HQ25.out⟩, ⟨by repeat (first | (with_reducible first | exact HB.out | apply zA | apply zB | apply zC | refine zD ?_ GB8.out | refine zD ?_ GE591.out) | exact HB.out)⟩⟩
          ·rw [if_neg c19] at H
           exact absurd H (by simp)
         ·rw [if_neg c17] at H
          exact absurd H (by simp)
        ·rw [if_neg c16] at H
         exact absurd H (by simp)
       ·replace c15 := Bool.eq_false_iff.mpr c15
        subst c15
        have H1 : ((spec_exTwo.f k1 ((rd_T47 l0 x10_1).f0)).bind fun t596 => (if t596 = true then (if 0 ≤ ((rd_T47 l0 x10_1).f1) then (if ((rd_T47 l0 x10_1).f1) < (x9_1.length : Int) then (if 0 ≤ ((rd_T47 l0 x10_1).f2) then (if ((rd_T47 l0 x10_1).f2) < (x9_1.length : Int) then ((spec_exApply.f ((rd_T47 l0 x10_1).f0) (rd x9_1 ((rd_T47 l0 x10_1).f1)) (rd x9_1 ((rd_T47 l0 x10_1).f2))).bind fun t599 => (if x10_1 < (x9_1.length : Int) then (spec_eqChanged.l0 k1 l0 (x9_1.set (x10_1 : Int).toNat t599) (wrap64 (x10_1 + 1))) else (none))) else (none)) else (none)) else (none)) else (none)) else (spec_eqChanged.l0 k1 l0 x9_1 (wrap64 (x10_1 + 1))))) = some r := by rw [if_neg (show ¬ (false = true) by decide)] at H; exact H
        clear H
        have H := H1
        clear H1
        replace H := Option.bind_eq_some_iff.mp H
        obtain ⟨t596, A260, H⟩ := H
        replace H : (if t596 = true then (if 0 ≤ ((rd_T47 l0 x10_1).f1) then (if ((rd_T47 l0 x10_1).f1) < (x9_1.length : Int) then (if 0 ≤ ((rd_T47 l0 x10_1).f2) then (if ((rd_T47 l0 x10_1).f2) < (x9_1.length : Int) then ((spec_exApply.f ((rd_T47 l0 x10_1).f0) (rd x9_1 ((rd_T47 l0 x10_1).f1)) (rd x9_1 ((rd_T47 l0 x10_1).f2))).bind fun t599 => (if x10_1 < (x9_1.length : Int) then (spec_eqChanged.l0 k1 l0 (x9_1.set (x10_1 : Int).toNat t599) (wrap64 (x10_1 + 1))) else (none))) else (none)) else (none)) else (none)) else (none)) else (spec_eqChanged.l0 k1 l0 x9_1 (wrap64 (x10_1 + 1)))) = some r := H
        have A26 := zK A260
        clear A260
        by_cases c27 : t596 = true
        ·subst c27
         have H1 : (if 0 ≤ ((rd_T47 l0 x10_1).f1) then (if ((rd_T47 l0 x10_1).f1) < (x9_1.length : Int) then (if 0 ≤ ((rd_T47 l0 x10_1).f2) then (if ((rd_T47 l0 x10_1).f2) < (x9_1.length : Int) then ((spec_exApply.f ((rd_T47 l0 x10_1).f0) (rd x9_1 ((rd_T47 l0 x10_1).f1)) (rd x9_1 ((rd_T47 l0 x10_1).f2))).bind fun t599 => (if x10_1 < (x9_1.length : Int) then (spec_eqChanged.l0 k1 l0 (x9_1.set (x10_1 : Int).toNat t599) (wrap64 (x10_1 + 1))) else (none))) else (none)) else (none)) else (none)) else (none)) = some r := by rw [if_pos rfl] at H; exact H
         clear H
         have H := H1
         clear H1
         by_cases c28 : 0 ≤ ((rd_T47 l0 x10_1).f1)
         ·rw [if_pos c28] at H
          have c28b0 : decide (0 ≤ ((rd_T47 l0 x10_1).f1)) = true := decide_eq_true c28
          clear c28
          by_cases c29 : ((rd_T47 l0 x10_1).f1) < (x9_1.length : Int)
          ·rw [if_pos c29] at H
           have c29b0 : decide (((rd_T47 l0 x10_1).f1) < (x9_1.length : Int)) = true := decide_eq_true c29
           clear c29
           by_cases c30 : 0 ≤ ((rd_T47 l0 x10_1).f2)
           ·rw [if_pos c30] at H
            have c30b0 : decide (0 ≤ ((rd_T47 l0 x10_1).f2)) = true := decide_eq_true c30
            clear c30
            by_cases c31 : ((rd_T47 l0 x10_1).f2) < (x9_1.length : Int)
            ·rw [if_pos c31] at H
             have c31b0 : decide (((rd_T47 l0 x10_1).f2) < (x9_1.length : Int)) = true := decide_eq_true c31
             clear c31
             replace H := Option.bind_eq_some_iff.mp H
             obtain ⟨t599, A320, H⟩ := H
             replace H : (if x10_1 < (x9_1.length : Int) then (spec_eqChanged.l0 k1 l0 (x9_1.set (x10_1 : Int).toNat t599) (wrap64 (x10_1 + 1))) else (none)) = some r := H
             have A32 := zK A320
             clear A320
             by_cases c33 : x10_1 < (x9_1.length : Int)
             ·rw [if_pos c33] at H
              have c33b0 : decide (x10_1 < (x9_1.length : Int)) = true := decide_eq_true c33
              clear c33
              obtain ⟨y600, hy600⟩ : ∃ y_ : List Int, y_ = (x9_1.set (x10_1 : Int).toNat t599) := ⟨_, rfl⟩
              replace H : (spec_eqChanged.l0 k1 l0 y600 (wrap64 (x10_1 + 1))) = some r := by first | (rw [hy600]; with_reducible exact H) | (have H2_ := (Option.bind_some _ _).symm.trans H; rw [hy600]; with_reducible exact H2_) | (have H2_ := (Option.bind_some _ _).symm.trans H; with_reducible exact H2_) | with_reducible exact H | (rw [hy600]; exact H) | exact H
              have Ny600 := zK hy600
              clear hy600
              have H' := zK H
              clear H
              have p590 : 0 ≤ (x10_1 : Int) := zo
              have q590 : x10_1 < (l0.length : Int) := zo
              obtain ⟨ad590, e590, hx590_0, hx590_1, hx590_2, hx590_3⟩ := at_T47 HR0.out x10_1 p590 q590
              cases e590
              replace hx590_0 := zt HB.out hx590_0
              replace hx590_1 := zt HB.out hx590_1
              replace hx590_2 := zt HB.out hx590_2
              replace hx590_3 := zt HB.out hx590_3
              replace p590 := eq_true p590
              replace q590 := eq_true q590
              try go_wp2_with (first | ((with_reducible refine gate_dst (N := 11) rfl ?_); refine box_event ?hg (N := 11) ?hd (cs := #[.string (⟨#[]⟩ : ByteArray), .int .i64 0, .int .i64 0, .int .i64 0]) (t := 47) ?hr ?_; (case hd => rfl); (case hg => rfl); (case hr => first | (go_simp; done) | (go_simp; rfl)); intro gb591 hg w35 hbox hb; have n0_ := zK (Kd.R_below (by (with_reducible repeat (first | apply Kd.R_alloc | apply Kd.R_drewN | apply Kd.R_drew)); exact HO_9.out) hb); have n1_ := zK (zL (by repeat (first | (with_reducible first | exact HB.out | apply zA | apply zB | apply zC) | exact HB.out)) hb); have n2_ := zK (hbox); have n3_ := zK ((by rw [hg]; exact (zN (by repeat (first | (with_reducible first | exact HB.out | apply zA | apply zB | apply zC) | exact HB.out))) : w.heap.size ≤ gb591)); have n4_ := zK ((by rw [hg]; exact (zN (by repeat (first | (with_reducible first | exact HB.out | apply zA | apply zB | apply zC) | exact HB.out))) : w.heap.size ≤ gb591)); clear HO_9; clear HB; have HO_9 := n0_; have HB := n1_; have BK591 := n2_; have GW591 := n3_; have GE591 := n4_; clear n0_ n1_ n2_ n3_ n4_; clear hb hbox hg; have hcz36_0 : w35.cell? ⟨gb591, 0, none⟩ = some (.string (⟨#[]⟩ : ByteArray)) := (zI BK591.out 0).trans rfl; have hcz36_1 : w35.cell? ⟨gb591, 1, none⟩ = some (.int .i64 0) := (zI BK591.out 1).trans rfl; have hcz36_2 : w35.cell? ⟨gb591, 2, none⟩ = some (.int .i64 0) := (zI BK591.out 2).trans rfl; have hcz36_3 : w35.cell? ⟨gb591, 3, none⟩ = some (.int .i64 0) := (zI BK591.out 3).trans rfl; have hfz36_0 := zH BK591.out 0; have hfz36_1 := zH BK591.out 1; have hfz36_2 := zH BK591.out 2; have hfz36_3 := zH BK591.out 3) | ((with_reducible refine gate_callee (f := 80) rfl ?_); refine goesL_ (some 33) rfl rfl Try.func80 (by kernel_rfl) rfl #[.string ((rd_T47 l0 x10_1).f0)] rfl (by (try simp only [z6, z7, z8]); first | done | rfl | (simp only [z4, z5]; rfl)) ?_; (with_reducible refine (spec_exOne.calls ((rd_T47 l0 x10_1).f0) false _ A14.out).mono ?_); rintro e w' ⟨rfl, ⟨nd, rfl⟩⟩; refine ⟨_, rfl, ?_⟩) | ((with_reducible refine gate_callee (f := 86) rfl ?_); refine goesL_ (some 48) rfl rfl Try.func86 (by kernel_rfl) rfl #[.string ((rd_T47 l0 x10_1).f0)] rfl (by (try simp only [z6, z7, z8]); first | done | rfl | (simp only [z4, z5]; rfl)) ?_; (with_reducible refine (spec_exTwo.calls k1 ((rd_T47 l0 x10_1).f0) true _ A26.out).mono ?_); rintro e w37 ⟨rfl, hb⟩; refine ⟨_, rfl, ?_⟩; have n0_ := zK (Kd.R_below (by (with_reducible repeat (first | apply Kd.R_alloc | apply Kd.R_drewN | apply Kd.R_drew)); exact (Kd.R_mono (Kd.R_far (p := ⟨gb591, 3, none⟩) (Kd.R_far (p := ⟨gb591, 2, none⟩) (Kd.R_far (p := ⟨gb591, 1, none⟩) (Kd.R_far (p := ⟨gb591, 0, none⟩) (Kd.R_types HO_9.out BK591.out (by decide)) (fun _ hk => hk.2) (.string ((rd_T47 l0 x10_1).f0))) (fun _ hk => hk.2) (.int .i64 ((rd_T47 l0 x10_1).f1))) (fun _ hk => hk.2) (.int .i64 ((rd_T47 l0 x10_1).f2))) (fun _ hk => hk.2) (.int .i64 ((rd_T47 l0 x10_1).f3))) (fun _ h_ => h_.1))) hb); have n1_ := zK (zM (g := gb591) (o := .cells #[.string ((rd_T47 l0 x10_1).f0), .int .i64 ((rd_T47 l0 x10_1).f1), .int .i64 ((rd_T47 l0 x10_1).f2), .int .i64 ((rd_T47 l0 x10_1).f3)] 47 (0, 0)) (by (with_reducible repeat (first | refine zE ?_ _ | refine zF ?_ | refine zG ?_ _)); refine blk_put (cs := #[.string ((rd_T47 l0 x10_1).f0), .int .i64 ((rd_T47 l0 x10_1).f1), .int .i64 ((rd_T47 l0 x10_1).f2), .int .i64 0]) ?_ 3 _ rfl; (with_reducible repeat (first | refine zE ?_ _ | refine zF ?_ | refine zG ?_ _)); refine blk_put (cs := #[.string ((rd_T47 l0 x10_1).f0), .int .i64 ((rd_T47 l0 x10_1).f1), .int .i64 0, .int .i64 0]) ?_ 2 _ rfl; (with_reducible repeat (first | refine zE ?_ _ | refine zF ?_ | refine zG ?_ _)); refine blk_put (cs := #[.string ((rd_T47 l0 x10_1).f0), .int .i64 0, .int .i64 0, .int .i64 0]) ?_ 1 _ rfl; (with_reducible repeat (first | refine zE ?_ _ | refine zF ?_ | refine zG ?_ _)); refine blk_put (cs := #[.string (⟨#[]⟩ : ByteArray), .int .i64 0, .int .i64 0, .int .i64 0]) ?_ 0 _ rfl; (with_reducible repeat (first | refine zE ?_ _ | refine zF ?_ | refine zG ?_ _)); exact BK591.out) hb); have n2_ := zK (zL (by repeat (first | (with_reducible first | exact HB.out | apply zA | apply zB | apply zC | refine zD ?_ GE591.out) | exact HB.out)) hb); clear HO_9; clear BK591; clear HB; have HO_9 := n0_; have BK591 := n1_; have HB := n2_; clear n0_ n1_ n2_; (try clear hb); (try clear hb2); (try clear hk); (try clear hi)))
              have n0_ := zK (Kd.R_drew HO_9.out)
              have n1_ := zK (zF BK591.out)
              have n2_ := zK (zC HB.out)
              clear HO_9
              clear BK591
              clear HB
              have HO_9 := n0_
              have BK591 := n1_
              have HB := n2_
              clear n0_ n1_ n2_
              have p597 : 0 ≤ (((rd_T47 l0 x10_1).f1) : Int) := zo
              have q597 : ((rd_T47 l0 x10_1).f1) < (x9_1.length : Int) := zo
              obtain ⟨ad597, e597, hx597_0⟩ := Kd.at_int (Kd.R_reads' HO_9.out).2.2 ((rd_T47 l0 x10_1).f1) p597 q597
              obtain rfl : (⟨go8, 0, none⟩ : Addr) = ad597 := (by injection e597)
              (first | simp only [add_plain] at hx597_0 | simp only [add_at] at hx597_0 | simp only [Addr.add, Nat.zero_add] at hx597_0 | skip)
              replace p597 := eq_true p597
              replace q597 := eq_true q597
              have p598 : 0 ≤ (((rd_T47 l0 x10_1).f2) : Int) := zo
              have q598 : ((rd_T47 l0 x10_1).f2) < (x9_1.length : Int) := zo
              obtain ⟨ad598, e598, hx598_0⟩ := Kd.at_int (Kd.R_reads' HO_9.out).2.2 ((rd_T47 l0 x10_1).f2) p598 q598
              obtain rfl : (⟨go8, 0, none⟩ : Addr) = ad598 := (by injection e598)
              (first | simp only [add_plain] at hx598_0 | simp only [add_at] at hx598_0 | simp only [Addr.add, Nat.zero_add] at hx598_0 | skip)
              replace p598 := eq_true p598
              replace q598 := eq_true q598
              refine start_ (n := 17) (S := fun w' => w'.cell? ⟨gb591, 0, none⟩ = some (.string ((rd_T47 l0 x10_1).f0)) ∧ w'.cell? ⟨gb591, 1, none⟩ = some (.int .i64 ((rd_T47 l0 x10_1).f1)) ∧ w'.cell? ⟨gb591, 2, none⟩ = some (.int .i64 ((rd_T47 l0 x10_1).f2)) ∧ w'.cell? ⟨gb591, 3, none⟩ = some (.int .i64 ((rd_T47 l0 x10_1).f3)) ∧ w'.cell? ⟨go8, (((rd_T47 l0 x10_1).f1)).toNat, none⟩ = some (.int .i64 (rd x9_1 ((rd_T47 l0 x10_1).f1))) ∧ w'.cell? ⟨go8, (((rd_T47 l0 x10_1).f2)).toNat, none⟩ = some (.int .i64 (rd x9_1 ((rd_T47 l0 x10_1).f2)))) (ds := [16]) #[false, false, false, false, false, false, false, false, false, false, false, false, false, false, false, false, false] (by kernel_rfl) rfl rfl ⟨(zI BK591.out 0).trans rfl, (zI BK591.out 1).trans rfl, (zI BK591.out 2).trans rfl, (zI BK591.out 3).trans rfl, hx597_0, hx598_0⟩ (fun hHeld => ?_); refine with_tabW spec_eqChanged.tab10 spec_eqChanged.bits10 (fun HT_ HW_ => ?_)
              generalize w37.drew = w38 at HO_9 BK591 HB hx597_0 hx598_0 hHeld ⊢
              refine pure_ (i := 0) (N := some 49) (v := ?_) (a' := ?_) #[true, false, false, false, false, false, false, false, false, false, false, false, false, false, false, false, false] rfl rfl (any_of HT_.out (by kernel_rfl)) (fun _ _ _ h => h) (Or.inl ⟨by rfl, ?_⟩) ?_ ?_
              rotate_left
              ·intro w'
               go_simp
               with_reducible rfl
              rotate_left
              ·simp only [Act.put, z1, z2, z3, i64_w, i32_w]
               rfl
              refine pure_ (i := 1) (N := some 50) (v := ?_) (a' := ?_) #[true, true, false, false, false, false, false, false, false, false, false, false, false, false, false, false, false] rfl rfl (any_of HT_.out (by kernel_rfl)) (fun _ _ _ h => h) (Or.inl ⟨by rfl, ?_⟩) ?_ ?_
              rotate_left
              ·intro w'
               go_simp
               with_reducible rfl
              rotate_left
              ·simp only [Act.put, z1, z2, z3, i64_w, i32_w]
               rfl
              refine pure_ (i := 2) (N := some 51) (v := ?_) (a' := ?_) #[true, true, true, false, false, false, false, false, false, false, false, false, false, false, false, false, false] rfl rfl (any_of HT_.out (by kernel_rfl)) (fun _ _ _ h => h) (Or.inl ⟨by rfl, ?_⟩) ?_ ?_
              rotate_left
              ·intro w'
               go_simp
               with_reducible rfl
              rotate_left
              ·simp only [Act.put, z1, z2, z3, i64_w, i32_w]
               rfl
              refine pure_ (i := 4) (N := some 53) (v := ?_) (a' := ?_) #[true, true, true, false, true, false, false, false, false, false, false, false, false, false, false, false, false] rfl rfl (any_of HT_.out (by kernel_rfl)) (fun _ _ _ h => h) (Or.inl ⟨by rfl, ?_⟩) ?_ ?_
              rotate_left
              ·intro w'
               go_simp
               with_reducible rfl
              rotate_left
              ·simp only [Act.put, z1, z2, z3, i64_w, i32_w]
               rfl
              refine pure_ (i := 5) (N := some 54) (v := ?_) (a' := ?_) #[true, true, true, false, true, true, false, false, false, false, false, false, false, false, false, false, false] rfl rfl (any_of HT_.out (by kernel_rfl)) (fun _ _ _ h => h) (Or.inl ⟨by rfl, ?_⟩) ?_ ?_
              rotate_left
              ·intro w'
               go_simp
               with_reducible rfl
              rotate_left
              ·simp only [Act.put, z1, z2, z3, i64_w, i32_w]
               rfl
              refine pure_ (i := 9) (N := some 58) (v := ?_) (a' := ?_) #[true, true, true, false, true, true, false, false, false, true, false, false, false, false, false, false, false] rfl rfl (any_of HT_.out (by kernel_rfl)) (fun _ _ _ h => h) (Or.inl ⟨by rfl, ?_⟩) ?_ ?_
              rotate_left
              ·intro w'
               go_simp
               with_reducible rfl
              rotate_left
              ·simp only [Act.put, z1, z2, z3, i64_w, i32_w]
               rfl
              refine pure_ (i := 10) (N := some 59) (v := ?_) (a' := ?_) #[true, true, true, false, true, true, false, false, false, true, true, false, false, false, false, false, false] rfl rfl (any_of HT_.out (by kernel_rfl)) (fun _ _ _ h => h) (Or.inl ⟨by rfl, ?_⟩) ?_ ?_
              rotate_left
              ·intro w'
               go_simp
               with_reducible rfl
              rotate_left
              ·simp only [Act.put, z1, z2, z3, i64_w, i32_w]
               rfl
              refine take_ (i := 3) (N := some 52) (v := ?_) (a' := ?_) #[true, true, true, true, true, true, false, false, false, true, true, false, false, false, false, false, false] rfl rfl (take_ofW HT_.out HW_.out (by kernel_rfl)) (fun _ _ _ h => h) (Or.inl ⟨by rfl, ?_⟩) hHeld ?_ ?_
              rotate_left
              ·rintro w' ⟨s0, s1, s2, s3, s4, s5⟩
               go_simp
               with_reducible rfl
              rotate_left
              ·simp only [Act.put, z1, z2, z3, i64_w, i32_w]
               rfl
              refine take_ (i := 6) (N := some 55) (v := ?_) (a' := ?_) #[true, true, true, true, true, true, true, false, false, true, true, false, false, false, false, false, false] rfl rfl (take_ofW HT_.out HW_.out (by kernel_rfl)) (fun _ _ _ h => h) (Or.inl ⟨by rfl, ?_⟩) hHeld ?_ ?_
              rotate_left
              ·rintro w' ⟨s0, s1, s2, s3, s4, s5⟩
               go_simp
               with_reducible rfl
              rotate_left
              ·simp only [Act.put, z1, z2, z3, i64_w, i32_w]
               rfl
              refine pure_ (i := 7) (N := some 56) (v := ?_) (a' := ?_) #[true, true, true, true, true, true, true, true, false, true, true, false, false, false, false, false, false] rfl rfl (any_of HT_.out (by kernel_rfl)) (fun _ _ _ h => h) (Or.inl ⟨by rfl, ?_⟩) ?_ ?_
              rotate_left
              ·intro w'
               go_simp
               with_reducible rfl
              rotate_left
              ·simp only [Act.put, z1, z2, z3, i64_w, i32_w]
               rfl
              refine take_ (i := 8) (N := some 57) (v := ?_) (a' := ?_) #[true, true, true, true, true, true, true, true, true, true, true, false, false, false, false, false, false] rfl rfl (take_ofW HT_.out HW_.out (by kernel_rfl)) (fun _ _ _ h => h) (Or.inl ⟨by rfl, ?_⟩) hHeld ?_ ?_
              rotate_left
              ·rintro w' ⟨s0, s1, s2, s3, s4, s5⟩
               go_simp
               with_reducible rfl
              rotate_left
              ·simp only [Act.put, z1, z2, z3, i64_w, i32_w]
               rfl
              refine take_ (i := 11) (N := some 60) (v := ?_) (a' := ?_) #[true, true, true, true, true, true, true, true, true, true, true, true, false, false, false, false, false] rfl rfl (take_ofW HT_.out HW_.out (by kernel_rfl)) (fun _ _ _ h => h) (Or.inl ⟨by rfl, ?_⟩) hHeld ?_ ?_
              rotate_left
              ·rintro w' ⟨s0, s1, s2, s3, s4, s5⟩
               go_simp
               with_reducible rfl
              rotate_left
              ·simp only [Act.put, z1, z2, z3, i64_w, i32_w]
               rfl
              refine pure_ (i := 12) (N := some 61) (v := ?_) (a' := ?_) #[true, true, true, true, true, true, true, true, true, true, true, true, true, false, false, false, false] rfl rfl (any_of HT_.out (by kernel_rfl)) (fun _ _ _ h => h) (Or.inl ⟨by rfl, ?_⟩) ?_ ?_
              rotate_left
              ·intro w'
               go_simp
               with_reducible rfl
              rotate_left
              ·simp only [Act.put, z1, z2, z3, i64_w, i32_w]
               rfl
              refine take_ (i := 13) (N := some 62) (v := ?_) (a' := ?_) #[true, true, true, true, true, true, true, true, true, true, true, true, true, true, false, false, false] rfl rfl (take_ofW HT_.out HW_.out (by kernel_rfl)) (fun _ _ _ h => h) (Or.inl ⟨by rfl, ?_⟩) hHeld ?_ ?_
              rotate_left
              ·rintro w' ⟨s0, s1, s2, s3, s4, s5⟩
               go_simp
               with_reducible rfl
              rotate_left
              ·simp only [Act.put, z1, z2, z3, i64_w, i32_w]
               rfl
              refine one_ (i := 14) (N := some 63) #[true, true, true, true, true, true, true, true, true, true, true, true, true, true, true, false, false] rfl rfl (one_of HT_.out (by kernel_rfl)) (by decide) (fun K hK => ?_)
              refine goes_ Try.func87 (by kernel_rfl) rfl #[.string ((rd_T47 l0 x10_1).f0), .int .i64 (rd x9_1 ((rd_T47 l0 x10_1).f1)), .int .i64 (rd x9_1 ((rd_T47 l0 x10_1).f2))] (by rfl) rfl rfl (by (try simp only [z6, z7, z8]); first | done | rfl | (simp only [z4, z5]; rfl)) ?_
              with_reducible refine (spec_exApply.calls ((rd_T47 l0 x10_1).f0) (rd x9_1 ((rd_T47 l0 x10_1).f1)) (rd x9_1 ((rd_T47 l0 x10_1).f2)) t599 _ A32.out).mono ?_
              rintro e w' ⟨rfl, ⟨nd, rfl⟩⟩
              refine ⟨_, rfl, ?_⟩
              have p34 : 0 ≤ (x10_1 : Int) := zo
              have q34 : (x10_1 : Int) < ((x9_1.length : Int) : Int) := zo
              obtain ⟨hx34_0, hf34_0⟩ := Kd.R_celln 0 HO_9.out (x10_1 : Int) p34 q34
              replace p34 := eq_true p34
              replace q34 := eq_true q34
              have HP39 := Kd.R_putn HO_9.out (x10_1 : Int) t599
              rw [← Ny600.out] at HP39
              have HQ39 := zK HP39
              clear HP39
              refine hK.out _ _ ⟨(zI BK591.out 0).trans rfl, (zI BK591.out 1).trans rfl, (zI BK591.out 2).trans rfl, (zI BK591.out 3).trans rfl, hHeld.2.2.2.2.1, hHeld.2.2.2.2.2⟩ (fun hHeld => ?_)
              clear hK K
              refine norm_ (a' := ?_) ?_ ?_
              rotate_left
              ·show Act.put _ (some 63) _ = _
               simp only [Act.put, z1, z2, z3, i64_w, i32_w]
               rfl
              refine pure_ (i := 15) (N := some 64) (v := ?_) (a' := ?_) #[true, true, true, true, true, true, true, true, true, true, true, true, true, true, true, true, false] rfl rfl (any_of HT_.out (by kernel_rfl)) (fun _ _ _ h => h) (Or.inl ⟨by rfl, ?_⟩) ?_ ?_
              rotate_left
              ·intro w'
               go_simp
               with_reducible rfl
              rotate_left
              ·simp only [Act.put, z1, z2, z3, i64_w, i32_w]
               rfl
              refine last_ (i := 16) (N := none) #[true, true, true, true, true, true, true, true, true, true, true, true, true, true, true, true, true] rfl rfl (one_of HT_.out (by kernel_rfl)) (by decide) (fun K hK => ?_)
              refine skip_ (w1 := ?_) (by rfl) rfl ?_ ?_
              rotate_left
              ·go_simp
               rfl
              refine hK.out _ _ ?_
              clear hK K
              refine done_ (done_of HT_.out (by kernel_rfl)) ?_
              try go_wp2
              (try simp only [← hl9_1])
              go_roundg k1
              case measure => have := HK1.out; omega
              case rel => exact ⟨(y600), (wrap64 (x10_1 + 1)), (by first | rfl | (simp; done) | (simp [*]; done)), H', ⟨by have := HK1.out; omega⟩, ⟨by (try simp only [hl9_1]); (with_reducible repeat (first | apply Kd.R_alloc | apply Kd.R_drewN | apply Kd.R_drew)); exact HQ39.out⟩, ⟨by repeat (first | (with_reducible first | exact HB.out | apply zA | apply zB | apply zC | refine zD ?_ GB8.out | refine zD ?_ GE591.out) | exact HB.out)⟩⟩
             ·rw [if_neg c33] at H
              exact absurd H (by simp)
            ·rw [if_neg c31] at H
             exact absurd H (by simp)
           ·rw [if_neg c30] at H
            exact absurd H (by simp)
          ·rw [if_neg c29] at H
           exact absurd H (by simp)
         ·rw [if_neg c28] at H
          exact absurd H (by simp)
        ·replace c27 := Bool.eq_false_iff.mpr c27
         subst c27
         have H1 : (spec_eqChanged.l0 k1 l0 x9_1 (wrap64 (x10_1 + 1))) = some r := by rw [if_neg (show ¬ (false = true) by decide)] at H; exact H
         clear H
         have H := H1
         clear H1
         have H' := zK H
         clear H
         have p590 : 0 ≤ (x10_1 : Int) := zo
         have q590 : x10_1 < (l0.length : Int) := zo
         obtain ⟨ad590, e590, hx590_0, hx590_1, hx590_2, hx590_3⟩ := at_T47 HR0.out x10_1 p590 q590
         cases e590
         replace hx590_0 := zt HB.out hx590_0
         replace hx590_1 := zt HB.out hx590_1
         replace hx590_2 := zt HB.out hx590_2
         replace hx590_3 := zt HB.out hx590_3
         replace p590 := eq_true p590
         replace q590 := eq_true q590
         go_wp2_with (first | ((with_reducible refine gate_dst (N := 11) rfl ?_); refine box_event ?hg (N := 11) ?hd (cs := #[.string (⟨#[]⟩ : ByteArray), .int .i64 0, .int .i64 0, .int .i64 0]) (t := 47) ?hr ?_; (case hd => rfl); (case hg => rfl); (case hr => first | (go_simp; done) | (go_simp; rfl)); intro gb591 hg w40 hbox hb; have n0_ := zK (Kd.R_below (by (with_reducible repeat (first | apply Kd.R_alloc | apply Kd.R_drewN | apply Kd.R_drew)); exact HO_9.out) hb); have n1_ := zK (zL (by repeat (first | (with_reducible first | exact HB.out | apply zA | apply zB | apply zC) | exact HB.out)) hb); have n2_ := zK (hbox); have n3_ := zK ((by rw [hg]; exact (zN (by repeat (first | (with_reducible first | exact HB.out | apply zA | apply zB | apply zC) | exact HB.out))) : w.heap.size ≤ gb591)); have n4_ := zK ((by rw [hg]; exact (zN (by repeat (first | (with_reducible first | exact HB.out | apply zA | apply zB | apply zC) | exact HB.out))) : w.heap.size ≤ gb591)); clear HO_9; clear HB; have HO_9 := n0_; have HB := n1_; have BK591 := n2_; have GW591 := n3_; have GE591 := n4_; clear n0_ n1_ n2_ n3_ n4_; clear hb hbox hg; have hcz41_0 : w40.cell? ⟨gb591, 0, none⟩ = some (.string (⟨#[]⟩ : ByteArray)) := (zI BK591.out 0).trans rfl; have hcz41_1 : w40.cell? ⟨gb591, 1, none⟩ = some (.int .i64 0) := (zI BK591.out 1).trans rfl; have hcz41_2 : w40.cell? ⟨gb591, 2, none⟩ = some (.int .i64 0) := (zI BK591.out 2).trans rfl; have hcz41_3 : w40.cell? ⟨gb591, 3, none⟩ = some (.int .i64 0) := (zI BK591.out 3).trans rfl; have hfz41_0 := zH BK591.out 0; have hfz41_1 := zH BK591.out 1; have hfz41_2 := zH BK591.out 2; have hfz41_3 := zH BK591.out 3) | ((with_reducible refine gate_callee (f := 80) rfl ?_); refine goesL_ (some 33) rfl rfl Try.func80 (by kernel_rfl) rfl #[.string ((rd_T47 l0 x10_1).f0)] rfl (by (try simp only [z6, z7, z8]); first | done | rfl | (simp only [z4, z5]; rfl)) ?_; (with_reducible refine (spec_exOne.calls ((rd_T47 l0 x10_1).f0) false _ A14.out).mono ?_); rintro e w' ⟨rfl, ⟨nd, rfl⟩⟩; refine ⟨_, rfl, ?_⟩) | ((with_reducible refine gate_callee (f := 86) rfl ?_); refine goesL_ (some 48) rfl rfl Try.func86 (by kernel_rfl) rfl #[.string ((rd_T47 l0 x10_1).f0)] rfl (by (try simp only [z6, z7, z8]); first | done | rfl | (simp only [z4, z5]; rfl)) ?_; (with_reducible refine (spec_exTwo.calls k1 ((rd_T47 l0 x10_1).f0) false _ A26.out).mono ?_); rintro e w42 ⟨rfl, hb⟩; refine ⟨_, rfl, ?_⟩; have n0_ := zK (Kd.R_below (by (with_reducible repeat (first | apply Kd.R_alloc | apply Kd.R_drewN | apply Kd.R_drew)); exact (Kd.R_mono (Kd.R_far (p := ⟨gb591, 3, none⟩) (Kd.R_far (p := ⟨gb591, 2, none⟩) (Kd.R_far (p := ⟨gb591, 1, none⟩) (Kd.R_far (p := ⟨gb591, 0, none⟩) (Kd.R_types HO_9.out BK591.out (by decide)) (fun _ hk => hk.2) (.string ((rd_T47 l0 x10_1).f0))) (fun _ hk => hk.2) (.int .i64 ((rd_T47 l0 x10_1).f1))) (fun _ hk => hk.2) (.int .i64 ((rd_T47 l0 x10_1).f2))) (fun _ hk => hk.2) (.int .i64 ((rd_T47 l0 x10_1).f3))) (fun _ h_ => h_.1))) hb); have n1_ := zK (zM (g := gb591) (o := .cells #[.string ((rd_T47 l0 x10_1).f0), .int .i64 ((rd_T47 l0 x10_1).f1), .int .i64 ((rd_T47 l0 x10_1).f2), .int .i64 ((rd_T47 l0 x10_1).f3)] 47 (0, 0)) (by (with_reducible repeat (first | refine zE ?_ _ | refine zF ?_ | refine zG ?_ _)); refine blk_put (cs := #[.string ((rd_T47 l0 x10_1).f0), .int .i64 ((rd_T47 l0 x10_1).f1), .int .i64 ((rd_T47 l0 x10_1).f2), .int .i64 0]) ?_ 3 _ rfl; (with_reducible repeat (first | refine zE ?_ _ | refine zF ?_ | refine zG ?_ _)); refine blk_put (cs := #[.string ((rd_T47 l0 x10_1).f0), .int .i64 ((rd_T47 l0 x10_1).f1), .int .i64 0, .int .i64 0]) ?_ 2 _ rfl; (with_reducible repeat (first | refine zE ?_ _ | refine zF ?_ | refine zG ?_ _)); refine blk_put (cs := #[.string ((rd_T47 l0 x10_1).f0), .int .i64 0, .int .i64 0, .int .i64 0]) ?_ 1 _ rfl; (with_reducible repeat (first | refine zE ?_ _ | refine zF ?_ | refine zG ?_ _)); refine blk_put (cs := #[.string (⟨#[]⟩ : ByteArray), .int .i64 0, .int .i64 0, .int .i64 0]) ?_ 0 _ rfl; (with_reducible repeat (first | refine zE ?_ _ | refine zF ?_ | refine zG ?_ _)); exact BK591.out) hb); have n2_ := zK (zL (by repeat (first | (with_reducible first | exact HB.out | apply zA | apply zB | apply zC | refine zD ?_ GE591.out) | exact HB.out)) hb); clear HO_9; clear BK591; clear HB; have HO_9 := n0_; have BK591 := n1_; have HB := n2_; clear n0_ n1_ n2_; (try clear hb); (try clear hb2); (try clear hk); (try clear hi)))
         (try simp only [← hl9_1])
         go_roundg k1
         case measure => have := HK1.out; omega
         case rel => exact ⟨(x9_1), (wrap64 (x10_1 + 1)), (by first | rfl | (simp; done) | (simp [*]; done)), H', ⟨by have := HK1.out; omega⟩, ⟨by (try simp only [hl9_1]); (with_reducible repeat (first | apply Kd.R_alloc | apply Kd.R_drewN | apply Kd.R_drew)); exact HO_9.out⟩, ⟨by repeat (first | (with_reducible first | exact HB.out | apply zA | apply zB | apply zC | refine zD ?_ GE591.out) | exact HB.out)⟩⟩
      ·rw [if_neg c13] at H
       exact absurd H (by simp)
     ·rw [if_neg c12] at H
      have c12b0 : decide (x10_1 < (l0.length : Int)) = false := decide_eq_false c12
      clear c12
      obtain ⟨ji43, hji43⟩ : ∃ j_ : Int, (wrap64 ((x9_1.length : Int) - 1)) = j_ := ⟨_, rfl⟩
      replace H : (if 0 ≤ (ji43) then (if (ji43) < (x9_1.length : Int) then (some (rd x9_1 (ji43))) else (none)) else (none)) = some r := by first | (rw [hji43] at H; exact H) | (simp only [hji43] at H ⊢; exact H)
      have hji43w : (IntKind.i64.wrap ((x9_1.length : Int) - 1)) = ji43 := (i64_w _).trans hji43
      by_cases c44 : 0 ≤ (ji43)
      ·rw [if_pos c44] at H
       have c44b0 : decide (0 ≤ (ji43)) = true := decide_eq_true c44
       clear c44
       by_cases c45 : (ji43) < (x9_1.length : Int)
       ·rw [if_pos c45] at H
        have c45b0 : decide ((ji43) < (x9_1.length : Int)) = true := decide_eq_true c45
        clear c45
        obtain rfl := Option.some.inj H
        have p589 : 0 ≤ ((ji43) : Int) := zo
        have q589 : (ji43) < (x9_1.length : Int) := zo
        obtain ⟨ad589, e589, hx589_0⟩ := Kd.at_int (Kd.R_reads' HO_9.out).2.2 (ji43) p589 q589
        obtain rfl : (⟨go8, 0, none⟩ : Addr) = ad589 := (by injection e589)
        (first | simp only [add_plain] at hx589_0 | simp only [add_at] at hx589_0 | simp only [Addr.add, Nat.zero_add] at hx589_0 | skip)
        replace p589 := eq_true p589
        replace q589 := eq_true q589
        go_wp2
        go_ret
        exact ⟨by first | rfl | (simp [errW_none, errW_some] <;> rfl) | (simp only [← hji43]; first | rfl | (simp [errW_none, errW_some] <;> rfl)) | (simp [*, errW_none, errW_some] <;> rfl), by repeat (first | (with_reducible first | exact HB.out | apply zA | apply zB | apply zC) | exact HB.out)⟩
       ·rw [if_neg c45] at H
        exact absurd H (by simp)
      ·rw [if_neg c44] at H
       exact absurd H (by simp)
  ·rw [if_neg c7] at H
   exact absurd H (by simp)
 ·rw [if_neg c6] at H
  exact absurd H (by simp)

end Go.Proofs.Ytlcplhcccgbmnaa.A
