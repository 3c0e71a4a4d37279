/- Contracts: impl_IsCode_c1, impl_Instr_impl_IsCode_c1_211, impl_Instr_impl_IsCode_c1_210, impl_IsCode, laws_eqInstr, laws_eqInstrS, laws_markText, laws_markInstrS. -/
import Derived.Test.YtecmlikhmkcdpaaFK
import Derived.Test.YtecmlikhmkcdpaaFImplIsInstr
namespace Go.Proofs.Ytecmlikhmkcdpaa.F
open Go.RowKit Go.Proofs.YtecmlikhmkcdpaaW.PrintWords Go.Proofs.YtecmlikhmkcdpaaW.PrintLast Go.Proofs.YtecmlikhmkcdpaaW.PrintMore
attribute [local go_sem] max2_int min2_int max_two min_two max_three min_three max_four min_four   -- for this text's walks alone
set_option linter.unusedVariables false
set_option linter.unusedSimpArgs false

/-! ### impl_IsCode_c1: function 109 -/
def impl_IsCode_c1.f (k : Nat) (a0_0 : ByteArray) (a0_1 : Int) (a0_2 : Int) (a0_3 : Int) (a0_4 : Int) : Option (Bool) := (impl_IsInstr.f k a0_0 a0_1 a0_2 a0_3 a0_4).bind fun t185 => (some (!t185))
theorem impl_IsCode_c1.mono : ∀ a0 a1 a2 a3 a4 k, LeO (impl_IsCode_c1.f k a0 a1 a2 a3 a4) (impl_IsCode_c1.f (k + 1) a0 a1 a2 a3 a4) := by
 intro a0 a1 a2 a3 a4 k
 unfold impl_IsCode_c1.f
 repeat' first
   | (with_reducible exact impl_IsInstr.mono _ _ _ _ _ _)
   | (with_reducible exact LeO.refl _)
   | (with_reducible exact LeO.none _)
   | (with_reducible refine LeO.ite ?_ ?_)
   | (with_reducible refine LeO.bind ?_ (fun _ => ?_))
   | exact impl_IsInstr.mono _ _ _ _ _ _
   | exact LeO.none _
   | refine LeO.ite ?_ ?_
   | refine LeO.bind ?_ (fun _ => ?_)
set_option maxHeartbeats 8000000 in
set_option maxRecDepth 100000 in
theorem impl_IsCode_c1.calls (k : Nat) (a0_0 : ByteArray) (a0_1 : Int) (a0_2 : Int) (a0_3 : Int) (a0_4 : Int) (r : Bool) (w : World) (h : impl_IsCode_c1.f k a0_0 a0_1 a0_2 a0_3 a0_4 = some r) :
  Calls Try.prog 109 #[.agg #[.string a0_0, .int .i64 a0_1, .int .i64 a0_2, .int .i64 a0_3, .int .i64 a0_4]] w fun e w' => e = .returned (.bool r) ∧ Below w.heap.size w w' := by
 have hu67 := Try.underlying67
 have HB := zK (Below.refl w.heap.size w)
 have H : ((impl_IsInstr.f k a0_0 a0_1 a0_2 a0_3 a0_4).bind fun t185 => (some (!t185))) = some r := h
 clear h
 replace H := Option.bind_eq_some_iff.mp H
 obtain ⟨t185, A20, H⟩ := H
 replace H : (some (!t185)) = some r := H
 have A2 := zK A20
 clear A20
 obtain rfl := Option.some.inj H
 go_enter Try.func109, Try.ntmps109
 go_wp2_with (first | ((with_reducible refine gate_dst (N := 1) rfl ?_); refine box_event ?hg (N := 1) ?hd (cs := #[.string a0_0, .int .i64 a0_1, .int .i64 a0_2, .int .i64 a0_3, .int .i64 a0_4]) (t := 67) ?hr ?_; (case hd => rfl); (case hg => rfl); (case hr => first | (go_simp; done) | (go_simp; rfl)); intro gb184 hg w3 hbox hb; have n0_ := zK (zL (by repeat (first | (with_reducible first | exact HB.out | apply zA | apply zB | apply zC) | exact HB.out)) hb); have n1_ := zK (hbox); have n2_ := zK ((by rw [hg]; exact (zN (by repeat (first | (with_reducible first | exact HB.out | apply zA | apply zB | apply zC) | exact HB.out))) : w.heap.size ≤ gb184)); have n3_ := n2_; clear HB; have HB := n0_; have BK184 := n1_; have GW184 := n2_; have GE184 := n3_; clear n0_ n1_ n2_ n3_; clear hb hbox hg; have hcz4_0 : w3.cell? ⟨gb184, 0, none⟩ = some (.string a0_0) := (zI BK184.out 0).trans rfl; have hcz4_1 : w3.cell? ⟨gb184, 1, none⟩ = some (.int .i64 a0_1) := (zI BK184.out 1).trans rfl; have hcz4_2 : w3.cell? ⟨gb184, 2, none⟩ = some (.int .i64 a0_2) := (zI BK184.out 2).trans rfl; have hcz4_3 : w3.cell? ⟨gb184, 3, none⟩ = some (.int .i64 a0_3) := (zI BK184.out 3).trans rfl; have hcz4_4 : w3.cell? ⟨gb184, 4, none⟩ = some (.int .i64 a0_4) := (zI BK184.out 4).trans rfl; have hfz4_0 := zH BK184.out 0; have hfz4_1 := zH BK184.out 1; have hfz4_2 := zH BK184.out 2; have hfz4_3 := zH BK184.out 3; have hfz4_4 := zH BK184.out 4) | ((with_reducible refine gate_callee (f := 110) rfl ?_); refine goesL_ (some 4) rfl rfl Try.func110 (by kernel_rfl) rfl #[.agg #[.string a0_0, .int .i64 a0_1, .int .i64 a0_2, .int .i64 a0_3, .int .i64 a0_4]] rfl (by (try simp only [z6, z7, z8]); first | done | rfl | (simp only [z4, z5]; rfl)) ?_; (with_reducible refine (impl_IsInstr.calls k a0_0 a0_1 a0_2 a0_3 a0_4 t185 _ A2.out).mono ?_); rintro e w5 ⟨rfl, hb⟩; refine ⟨_, rfl, ?_⟩; have n0_ := zK (zM (g := gb184) (o := .cells #[.string a0_0, .int .i64 a0_1, .int .i64 a0_2, .int .i64 a0_3, .int .i64 a0_4] 67 (0, 0)) (by (with_reducible repeat (first | refine zE ?_ _ | refine zF ?_ | refine zG ?_ _)); exact BK184.out) hb); have n1_ := zK (zL (by repeat (first | (with_reducible first | exact HB.out | apply zA | apply zB | apply zC | refine zD ?_ GE184.out) | exact HB.out)) hb); clear BK184; clear HB; have BK184 := n0_; have HB := n1_; clear n0_ n1_; (try clear hb); (try clear hb2); (try clear hk); (try clear hi)))
 go_ret
 exact ⟨by first | rfl | (simp [errW_none, errW_some] <;> rfl) | (simp [*, errW_none, errW_some] <;> rfl), by repeat (first | (with_reducible first | exact HB.out | apply zA | apply zB | apply zC | refine zD ?_ GE184.out) | exact HB.out)⟩

/-! ### impl_Instr_impl_IsCode_c1_211: function 211 -/
def impl_Instr_impl_IsCode_c1_211.l0 : Nat → List (S67) → Int → Int → Option (Int)
 | 0, _, _, _ => none
 | k + 1, x0, x7, x8 => if x8 < x7 then (if 0 ≤ x8 then (if x8 < (x0.length : Int) then ((impl_IsCode_c1.f k ((rd_T67 x0 x8).f0) ((rd_T67 x0 x8).f1) ((rd_T67 x0 x8).f2) ((rd_T67 x0 x8).f3) ((rd_T67 x0 x8).f4)).bind fun t187 => (if t187 = true then (some x8) else (impl_Instr_impl_IsCode_c1_211.l0 k x0 x7 (wrap64 (x8 + 1))))) else (none)) else (none)) else (some (-1))
def impl_Instr_impl_IsCode_c1_211.f (k : Nat) (l0 : List (S67)) : Option (Int) := impl_Instr_impl_IsCode_c1_211.l0 k l0 (l0.length : Int) 0
theorem impl_Instr_impl_IsCode_c1_211.mono_l : ∀ k, (∀ y0 y1 y2, LeO (impl_Instr_impl_IsCode_c1_211.l0 k y0 y1 y2) (impl_Instr_impl_IsCode_c1_211.l0 (k + 1) y0 y1 y2))
 | 0 => fun _ _ _ r h => by simp [impl_Instr_impl_IsCode_c1_211.l0] at h
 | k + 1 => by
  have ih0 := impl_Instr_impl_IsCode_c1_211.mono_l k
  ·intro y0 y1 y2
   unfold impl_Instr_impl_IsCode_c1_211.l0
   repeat' first
   | (with_reducible exact ih0 _ _ _)
   | (with_reducible exact impl_IsCode_c1.mono _ _ _ _ _ _)
   | (with_reducible exact LeO.refl _)
   | (with_reducible exact LeO.none _)
   | (with_reducible refine LeO.ite ?_ ?_)
   | (with_reducible refine LeO.bind ?_ (fun _ => ?_))
   | exact ih0 _ _ _
   | exact impl_IsCode_c1.mono _ _ _ _ _ _
   | exact LeO.none _
   | refine LeO.ite ?_ ?_
   | refine LeO.bind ?_ (fun _ => ?_)
theorem impl_Instr_impl_IsCode_c1_211.mono : ∀ a0 k, LeO (impl_Instr_impl_IsCode_c1_211.f k a0) (impl_Instr_impl_IsCode_c1_211.f (k + 1) a0) := by
 intro a0 k
 have ih0 := impl_Instr_impl_IsCode_c1_211.mono_l k
 unfold impl_Instr_impl_IsCode_c1_211.f
 repeat' first
   | (with_reducible exact ih0 _ _ _)
   | (with_reducible exact impl_IsCode_c1.mono _ _ _ _ _ _)
   | (with_reducible exact LeO.refl _)
   | (with_reducible exact LeO.none _)
   | (with_reducible refine LeO.ite ?_ ?_)
   | (with_reducible refine LeO.bind ?_ (fun _ => ?_))
   | exact ih0 _ _ _
   | exact impl_IsCode_c1.mono _ _ _ _ _ _
   | exact LeO.none _
   | refine LeO.ite ?_ ?_
   | refine LeO.bind ?_ (fun _ => ?_)
set_option maxHeartbeats 8000000 in
set_option maxRecDepth 100000 in
theorem impl_Instr_impl_IsCode_c1_211.calls (k : Nat) (A0 : Option Addr) (c0 : Nat) (l0 : List (S67)) (r : Int) (w : World) (hr0 : Kd.C k67 w A0 l0.length l0) (hc0 : l0.length ≤ c0) (h : impl_Instr_impl_IsCode_c1_211.f k l0 = some r) :
  Calls Try.prog 158 #[.slice A0 l0.length c0, .func (.func 109) #[] #[]] w fun e w' => e = .returned (.int .i64 r) ∧ Below w.heap.size w w' := by
 have hu67 := Try.underlying67
 have HR0 := zK hr0
 have HC0 := zK hc0
 clear hr0 hc0
 have HB := zK (Below.refl w.heap.size w)
 have H : (impl_Instr_impl_IsCode_c1_211.l0 k l0 (l0.length : Int) 0) = some r := h
 clear h
 have H' := zK H
 clear H
 go_enter Try.func158, Try.ntmps158
 go_wp2
 go_loopg [8] k (fun kq v8 w' => ∃ (x8_1 : Int), v8 = .int .i64 x8_1 ∧ Aside0 (impl_Instr_impl_IsCode_c1_211.l0 kq l0 (l0.length : Int) x8_1 = some r) ∧ Aside0 (kq ≤ k) ∧ Aside0 (Below w.heap.size w w'))
 case atStart => exact ⟨(0), (by first | rfl | (simp; done) | (simp [*]; done)), H', ⟨Nat.le_refl _⟩, ⟨by repeat (first | (with_reducible first | exact HB.out | apply zA | apply zB | apply zC) | exact HB.out)⟩⟩
 case round =>
  clear H'
  try clear c1
  obtain ⟨x8_1, rfl, HA, HK1, HB⟩ := hrel
  cases gk with
  | zero => exact absurd HA.out (by simp [impl_Instr_impl_IsCode_c1_211.l0])
  | succ k1 =>
   have H := HA.out
   clear HA
   simp only [impl_Instr_impl_IsCode_c1_211.l0] at H
   by_cases c2 : x8_1 < (l0.length : Int)
   ·rw [if_pos c2] at H
    have c2b0 : decide (x8_1 < (l0.length : Int)) = true := decide_eq_true c2
    clear c2
    by_cases c3 : 0 ≤ x8_1
    ·rw [if_pos c3] at H
     have c3b0 : decide (0 ≤ x8_1) = true := decide_eq_true c3
     clear c3
     by_cases c4 : x8_1 < (l0.length : Int)
     ·rw [if_pos c4] at H
      have c4b0 : decide (x8_1 < (l0.length : Int)) = true := decide_eq_true c4
      clear c4
      replace H := Option.bind_eq_some_iff.mp H
      obtain ⟨t187, A50, H⟩ := H
      replace H : (if t187 = true then (some x8_1) else (impl_Instr_impl_IsCode_c1_211.l0 k1 l0 (l0.length : Int) (wrap64 (x8_1 + 1)))) = some r := H
      have A5 := zK A50
      clear A50
      by_cases c6 : t187 = true
      ·subst c6
       rw [if_pos rfl] at H
       obtain rfl := Option.some.inj H
       have p186 : 0 ≤ (x8_1 : Int) := zo
       have q186 : x8_1 < (l0.length : Int) := zo
       obtain ⟨ad186, e186, hx186_0, hx186_1, hx186_2, hx186_3, hx186_4⟩ := at_T67 HR0.out x8_1 p186 q186
       cases e186
       replace hx186_0 := zt HB.out hx186_0
       replace hx186_1 := zt HB.out hx186_1
       replace hx186_2 := zt HB.out hx186_2
       replace hx186_3 := zt HB.out hx186_3
       replace hx186_4 := zt HB.out hx186_4
       replace p186 := eq_true p186
       replace q186 := eq_true q186
       go_wp2_with (first | (go_at_call 109; (with_reducible refine (impl_IsCode_c1.calls k1 ((rd_T67 l0 x8_1).f0) ((rd_T67 l0 x8_1).f1) ((rd_T67 l0 x8_1).f2) ((rd_T67 l0 x8_1).f3) ((rd_T67 l0 x8_1).f4) true _ A5.out).mono ?_); rintro e w7 ⟨rfl, hb⟩; have n0_ := zK (zL (by repeat (first | (with_reducible first | exact HB.out | apply zA | apply zB | apply zC) | exact HB.out)) hb); clear HB; have HB := n0_; clear n0_; (try clear hb); (try clear hb2); (try clear hk); (try clear hi)))
       go_ret
       exact ⟨by first | rfl | (simp [errW_none, errW_some] <;> rfl) | (simp [*, errW_none, errW_some] <;> rfl), by repeat (first | (with_reducible first | exact HB.out | apply zA | apply zB | apply zC) | exact HB.out)⟩
      ·replace c6 := Bool.eq_false_iff.mpr c6
       subst c6
       rw [if_neg (show ¬ (false = true) by decide)] at H
       have H' := zK H
       clear H
       have p186 : 0 ≤ (x8_1 : Int) := zo
       have q186 : x8_1 < (l0.length : Int) := zo
       obtain ⟨ad186, e186, hx186_0, hx186_1, hx186_2, hx186_3, hx186_4⟩ := at_T67 HR0.out x8_1 p186 q186
       cases e186
       replace hx186_0 := zt HB.out hx186_0
       replace hx186_1 := zt HB.out hx186_1
       replace hx186_2 := zt HB.out hx186_2
       replace hx186_3 := zt HB.out hx186_3
       replace hx186_4 := zt HB.out hx186_4
       replace p186 := eq_true p186
       replace q186 := eq_true q186
       go_wp2_with (first | (go_at_call 109; (with_reducible refine (impl_IsCode_c1.calls k1 ((rd_T67 l0 x8_1).f0) ((rd_T67 l0 x8_1).f1) ((rd_T67 l0 x8_1).f2) ((rd_T67 l0 x8_1).f3) ((rd_T67 l0 x8_1).f4) false _ A5.out).mono ?_); rintro e w8 ⟨rfl, hb⟩; have n0_ := zK (zL (by repeat (first | (with_reducible first | exact HB.out | apply zA | apply zB | apply zC) | exact HB.out)) hb); clear HB; have HB := n0_; clear n0_; (try clear hb); (try clear hb2); (try clear hk); (try clear hi)))
       go_roundg k1
       case measure => have := HK1.out; omega
       case rel => exact ⟨(wrap64 (x8_1 + 1)), (by first | rfl | (simp; done) | (simp [*]; done)), H', ⟨by have := HK1.out; omega⟩, ⟨by repeat (first | (with_reducible first | exact HB.out | apply zA | apply zB | apply zC) | exact HB.out)⟩⟩
     ·rw [if_neg c4] at H
      exact absurd H (by simp)
    ·rw [if_neg c3] at H
     exact absurd H (by simp)
   ·rw [if_neg c2] at H
    have c2b0 : decide (x8_1 < (l0.length : Int)) = false := decide_eq_false c2
    clear c2
    obtain rfl := Option.some.inj H
    go_wp2
    go_ret
    exact ⟨by first | rfl | (simp [errW_none, errW_some] <;> rfl) | (simp [*, errW_none, errW_some] <;> rfl), by repeat (first | (with_reducible first | exact HB.out | apply zA | apply zB | apply zC) | exact HB.out)⟩

/-! ### impl_Instr_impl_IsCode_c1_210: function 210 -/
def impl_Instr_impl_IsCode_c1_210.f (k : Nat) (l0 : List (S67)) : Option (Bool) := (impl_Instr_impl_IsCode_c1_211.f k l0).bind fun t188 => (some (decide (t188 ≥ 0)))
theorem impl_Instr_impl_IsCode_c1_210.mono : ∀ a0 k, LeO (impl_Instr_impl_IsCode_c1_210.f k a0) (impl_Instr_impl_IsCode_c1_210.f (k + 1) a0) := by
 intro a0 k
 unfold impl_Instr_impl_IsCode_c1_210.f
 repeat' first
   | (with_reducible exact impl_Instr_impl_IsCode_c1_211.mono _ _)
   | (with_reducible exact LeO.refl _)
   | (with_reducible exact LeO.none _)
   | (with_reducible refine LeO.ite ?_ ?_)
   | (with_reducible refine LeO.bind ?_ (fun _ => ?_))
   | exact impl_Instr_impl_IsCode_c1_211.mono _ _
   | exact LeO.none _
   | refine LeO.ite ?_ ?_
   | refine LeO.bind ?_ (fun _ => ?_)
set_option maxHeartbeats 8000000 in
set_option maxRecDepth 100000 in
theorem impl_Instr_impl_IsCode_c1_210.calls (k : Nat) (A0 : Option Addr) (c0 : Nat) (l0 : List (S67)) (r : Bool) (w : World) (hr0 : Kd.C k67 w A0 l0.length l0) (hc0 : l0.length ≤ c0) (h : impl_Instr_impl_IsCode_c1_210.f k l0 = some r) :
  Calls Try.prog 108 #[.slice A0 l0.length c0, .func (.func 109) #[] #[]] w fun e w' => e = .returned (.bool r) ∧ Below w.heap.size w w' := by
 have HR0 := zK hr0
 have HC0 := zK hc0
 clear hr0 hc0
 have HB := zK (Below.refl w.heap.size w)
 have H : ((impl_Instr_impl_IsCode_c1_211.f k l0).bind fun t188 => (some (decide (t188 ≥ 0)))) = some r := h
 clear h
 replace H := Option.bind_eq_some_iff.mp H
 obtain ⟨t188, A20, H⟩ := H
 replace H : (some (decide (t188 ≥ 0))) = some r := H
 have A2 := zK A20
 clear A20
 obtain rfl := Option.some.inj H
 go_enter Try.func108, Try.ntmps108
 go_wp2_with (first | ((with_reducible refine gate_callee (f := 158) rfl ?_); refine goesL_ (some 7) rfl rfl Try.func158 (by kernel_rfl) rfl #[.slice A0 l0.length c0, .func (.func 109) #[] #[]] rfl (by (try simp only [z6, z7, z8]); first | done | rfl | (simp only [z4, z5]; rfl)) ?_; (with_reducible refine (impl_Instr_impl_IsCode_c1_211.calls k _ _ l0 t188 _ ?side1 ?side2 A2.out).mono ?_); (case side1 => repeat (first | exact HR0.out | (with_reducible refine Kd.C_alloc ?_ _) | (with_reducible refine Kd.C_drewN ?_ _) | (with_reducible refine Kd.C_drew ?_))); (case side2 => exact HC0.out); rintro e w3 ⟨rfl, hb⟩; refine ⟨_, rfl, ?_⟩; have n0_ := zK (zL (by repeat (first | (with_reducible first | exact HB.out | apply zA | apply zB | apply zC) | exact HB.out)) hb); clear HB; have HB := n0_; clear n0_; (try clear hb); (try clear hb2); (try clear hk); (try clear hi)))
 go_ret
 exact ⟨by first | rfl | (simp [errW_none, errW_some] <;> rfl) | (simp [*, errW_none, errW_some] <;> rfl), by repeat (first | (with_reducible first | exact HB.out | apply zA | apply zB | apply zC) | exact HB.out)⟩

/-! ### impl_IsCode: function 60 -/
def impl_IsCode.f (k : Nat) (l0 : List (S67)) : Option (Bool) := if (l0.length : Int) ≤ 40 then ((impl_Instr_impl_IsCode_c1_210.f k l0).bind fun t189 => (some (!t189))) else (some false)
theorem impl_IsCode.mono : ∀ a0 k, LeO (impl_IsCode.f k a0) (impl_IsCode.f (k + 1) a0) := by
 intro a0 k
 unfold impl_IsCode.f
 repeat' first
   | (with_reducible exact impl_Instr_impl_IsCode_c1_210.mono _ _)
   | (with_reducible exact LeO.refl _)
   | (with_reducible exact LeO.none _)
   | (with_reducible refine LeO.ite ?_ ?_)
   | (with_reducible refine LeO.bind ?_ (fun _ => ?_))
   | exact impl_Instr_impl_IsCode_c1_210.mono _ _
   | exact LeO.none _
   | refine LeO.ite ?_ ?_
   | refine LeO.bind ?_ (fun _ => ?_)
set_option maxHeartbeats 8000000 in
set_option maxRecDepth 100000 in
theorem impl_IsCode.calls (k : Nat) (A0 : Option Addr) (c0 : Nat) (l0 : List (S67)) (r : Bool) (w : World) (hr0 : Kd.C k67 w A0 l0.length l0) (hc0 : l0.length ≤ c0) (h : impl_IsCode.f k l0 = some r) :
  Calls Try.prog 60 #[.slice A0 l0.length c0] w fun e w' => e = .returned (.bool r) ∧ Below w.heap.size w w' := by
 have HR0 := zK hr0
 have HC0 := zK hc0
 clear hr0 hc0
 have HB := zK (Below.refl w.heap.size w)
 have H : (if (l0.length : Int) ≤ 40 then ((impl_Instr_impl_IsCode_c1_210.f k l0).bind fun t189 => (some (!t189))) else (some false)) = some r := h
 clear h
 by_cases c2 : (l0.length : Int) ≤ 40
 ·rw [if_pos c2] at H
  have c2b0 : decide ((l0.length : Int) ≤ 40) = true := decide_eq_true c2
  have c2b1 : decide (l0.length ≤ 40) = true := decide_eq_true (by omega)
  clear c2
  replace H := Option.bind_eq_some_iff.mp H
  obtain ⟨t189, A30, H⟩ := H
  replace H : (some (!t189)) = some r := H
  have A3 := zK A30
  clear A30
  obtain rfl := Option.some.inj H
  go_enter Try.func60, Try.ntmps60
  go_wp2_with (first | (go_at_call 108; (with_reducible refine (impl_Instr_impl_IsCode_c1_210.calls k _ _ l0 t189 _ ?side1 ?side2 A3.out).mono ?_); (case side1 => repeat (first | exact HR0.out | (with_reducible refine Kd.C_alloc ?_ _) | (with_reducible refine Kd.C_drewN ?_ _) | (with_reducible refine Kd.C_drew ?_))); (case side2 => exact HC0.out); rintro e w4 ⟨rfl, hb⟩; have n0_ := zK (zL (by repeat (first | (with_reducible first | exact HB.out | apply zA | apply zB | apply zC) | exact HB.out)) hb); clear HB; have HB := n0_; clear n0_; (try clear hb); (try clear hb2); (try clear hk); (try clear hi)))
  go_ret
  exact ⟨by first | rfl | (simp [errW_none, errW_some] <;> rfl) | (simp [*, errW_none, errW_some] <;> rfl), by repeat (first | (with_reducible first | exact HB.out | apply zA | apply zB | apply zC) | exact HB.out)⟩
 ·rw [if_neg c2] at H
  have c2b0 : decide ((l0.length : Int) ≤ 40) = false := decide_eq_false c2
  have c2b1 : decide (l0.length ≤ 40) = false := decide_eq_false (by omega)
  clear c2
  obtain rfl := Option.some.inj H
  go_enter Try.func60, Try.ntmps60
  go_wp2
  go_ret
  exact ⟨by first | rfl | (simp [errW_none, errW_some] <;> rfl) | (simp [*, errW_none, errW_some] <;> rfl), by repeat (first | (with_reducible first | exact HB.out | apply zA | apply zB | apply zC) | exact HB.out)⟩

/-! ### laws_eqInstr: function 62 -/
def laws_eqInstr.f (a0_0 : ByteArray) (a0_1 : Int) (a0_2 : Int) (a0_3 : Int) (a0_4 : Int) (a1_0 : ByteArray) (a1_1 : Int) (a1_2 : Int) (a1_3 : Int) (a1_4 : Int) : Option (Bool) := if a0_0.toList = a1_0.toList then (if a0_1 = a1_1 then (if a0_2 = a1_2 then (if a0_3 = a1_3 then (if a0_4 = a1_4 then (some true) else (some false)) else (some false)) else (some false)) else (some false)) else (some false)
set_option maxHeartbeats 8000000 in
set_option maxRecDepth 100000 in
theorem laws_eqInstr.calls (a0_0 : ByteArray) (a0_1 : Int) (a0_2 : Int) (a0_3 : Int) (a0_4 : Int) (a1_0 : ByteArray) (a1_1 : Int) (a1_2 : Int) (a1_3 : Int) (a1_4 : Int) (r : Bool) (w : World) (h : laws_eqInstr.f a0_0 a0_1 a0_2 a0_3 a0_4 a1_0 a1_1 a1_2 a1_3 a1_4 = some r) :
  Calls Try.prog 62 #[.agg #[.string a0_0, .int .i64 a0_1, .int .i64 a0_2, .int .i64 a0_3, .int .i64 a0_4], .agg #[.string a1_0, .int .i64 a1_1, .int .i64 a1_2, .int .i64 a1_3, .int .i64 a1_4]] w fun e w' => e = .returned (.bool r) ∧ Below w.heap.size w w' := by
 have hu67 := Try.underlying67
 have HB := zK (Below.refl w.heap.size w)
 have H : (if a0_0.toList = a1_0.toList then (if a0_1 = a1_1 then (if a0_2 = a1_2 then (if a0_3 = a1_3 then (if a0_4 = a1_4 then (some true) else (some false)) else (some false)) else (some false)) else (some false)) else (some false)) = some r := h
 clear h
 by_cases c3 : a0_0.toList = a1_0.toList
 ·rw [if_pos c3] at H
  have c3b0 : (a0_0.toList == a1_0.toList) = true := beq_iff_eq.mpr c3
  have c3b1 : (a0_0.toList != a1_0.toList) = false := bne_eq_false_iff_eq.mpr c3
  clear c3
  by_cases c4 : a0_1 = a1_1
  ·rw [if_pos c4] at H
   have c4b0 : (a0_1 == a1_1) = true := beq_iff_eq.mpr c4
   have c4b1 : (a0_1 != a1_1) = false := bne_eq_false_iff_eq.mpr c4
   clear c4
   by_cases c5 : a0_2 = a1_2
   ·rw [if_pos c5] at H
    have c5b0 : (a0_2 == a1_2) = true := beq_iff_eq.mpr c5
    have c5b1 : (a0_2 != a1_2) = false := bne_eq_false_iff_eq.mpr c5
    clear c5
    by_cases c6 : a0_3 = a1_3
    ·rw [if_pos c6] at H
     have c6b0 : (a0_3 == a1_3) = true := beq_iff_eq.mpr c6
     have c6b1 : (a0_3 != a1_3) = false := bne_eq_false_iff_eq.mpr c6
     clear c6
     by_cases c7 : a0_4 = a1_4
     ·rw [if_pos c7] at H
      have c7b0 : (a0_4 == a1_4) = true := beq_iff_eq.mpr c7
      have c7b1 : (a0_4 != a1_4) = false := bne_eq_false_iff_eq.mpr c7
      clear c7
      obtain rfl := Option.some.inj H
      go_enter Try.func62, Try.ntmps62
      go_wp2_with (first | ((with_reducible refine gate_dst (N := 2) rfl ?_); refine box_event ?hg (N := 2) ?hd (cs := #[.string a0_0, .int .i64 a0_1, .int .i64 a0_2, .int .i64 a0_3, .int .i64 a0_4]) (t := 67) ?hr ?_; (case hd => rfl); (case hg => rfl); (case hr => first | (go_simp; done) | (go_simp; rfl)); intro gb212 hg w8 hbox hb; have n0_ := zK (zL (by repeat (first | (with_reducible first | exact HB.out | apply zA | apply zB | apply zC) | exact HB.out)) hb); have n1_ := zK (hbox); have n2_ := zK ((by rw [hg]; exact (zN (by repeat (first | (with_reducible first | exact HB.out | apply zA | apply zB | apply zC) | exact HB.out))) : w.heap.size ≤ gb212)); have n3_ := n2_; clear HB; have HB := n0_; have BK212 := n1_; have GW212 := n2_; have GE212 := n3_; clear n0_ n1_ n2_ n3_; clear hb hbox hg) | ((with_reducible refine gate_dst (N := 3) rfl ?_); refine box_event ?hg (N := 3) ?hd (cs := #[.string a1_0, .int .i64 a1_1, .int .i64 a1_2, .int .i64 a1_3, .int .i64 a1_4]) (t := 67) ?hr ?_; (case hd => rfl); (case hg => rfl); (case hr => first | (go_simp; done) | (go_simp; rfl)); intro gb213 hg w9 hbox hb; have n0_ := zK (zM (g := gb212) (o := .cells #[.string a0_0, .int .i64 a0_1, .int .i64 a0_2, .int .i64 a0_3, .int .i64 a0_4] 67 (0, 0)) (by (with_reducible repeat (first | refine zE ?_ _ | refine zF ?_ | refine zG ?_ _)); exact BK212.out) hb); have n1_ := zK (zL (by repeat (first | (with_reducible first | exact HB.out | apply zA | apply zB | apply zC | refine zD ?_ GE212.out) | exact HB.out)) hb); have n2_ := zK (hbox); have n3_ := zK ((by rw [hg]; exact (zN (by repeat (first | (with_reducible first | exact HB.out | apply zA | apply zB | apply zC | refine zD ?_ GE212.out) | exact HB.out))) : w.heap.size ≤ gb213)); have n4_ := n3_; have n5_ := zK ((by rw [hg]; exact Nat.ne_of_lt (blk_lt (g := gb212) (o := .cells #[.string a0_0, .int .i64 a0_1, .int .i64 a0_2, .int .i64 a0_3, .int .i64 a0_4] 67 (0, 0)) (by (with_reducible repeat (first | refine zE ?_ _ | refine zF ?_ | refine zG ?_ _)); exact BK212.out)) : gb212 ≠ gb213)); have n6_ := zK n5_.out.symm; clear BK212; clear HB; have BK212 := n0_; have HB := n1_; have BK213 := n2_; have GW213 := n3_; have GE213 := n4_; have NB212_213 := n5_; have NB213_212 := n6_; clear n0_ n1_ n2_ n3_ n4_ n5_ n6_; clear hb hbox hg; have hnb10 := NB212_213.out; have hnc10 := NB213_212.out; have hcz11_0 : w9.cell? ⟨gb212, 0, none⟩ = some (.string a0_0) := (zI BK212.out 0).trans rfl; have hcz11_1 : w9.cell? ⟨gb212, 1, none⟩ = some (.int .i64 a0_1) := (zI BK212.out 1).trans rfl; have hcz11_2 : w9.cell? ⟨gb212, 2, none⟩ = some (.int .i64 a0_2) := (zI BK212.out 2).trans rfl; have hcz11_3 : w9.cell? ⟨gb212, 3, none⟩ = some (.int .i64 a0_3) := (zI BK212.out 3).trans rfl; have hcz11_4 : w9.cell? ⟨gb212, 4, none⟩ = some (.int .i64 a0_4) := (zI BK212.out 4).trans rfl; have hfz11_0 := zH BK212.out 0; have hfz11_1 := zH BK212.out 1; have hfz11_2 := zH BK212.out 2; have hfz11_3 := zH BK212.out 3; have hfz11_4 := zH BK212.out 4; have hcz12_0 : w9.cell? ⟨gb213, 0, none⟩ = some (.string a1_0) := (zI BK213.out 0).trans rfl; have hcz12_1 : w9.cell? ⟨gb213, 1, none⟩ = some (.int .i64 a1_1) := (zI BK213.out 1).trans rfl; have hcz12_2 : w9.cell? ⟨gb213, 2, none⟩ = some (.int .i64 a1_2) := (zI BK213.out 2).trans rfl; have hcz12_3 : w9.cell? ⟨gb213, 3, none⟩ = some (.int .i64 a1_3) := (zI BK213.out 3).trans rfl; have hcz12_4 : w9.cell? ⟨gb213, 4, none⟩ = some (.int .i64 a1_4) := (zI BK213.out 4).trans rfl; have hfz12_0 := zH BK213.out 0; have hfz12_1 := zH BK213.out 1; have hfz12_2 := zH BK213.out 2; have hfz12_3 := zH BK213.out 3; have hfz12_4 := zH BK213.out 4))
      go_ret
      exact ⟨by first | rfl | (simp [errW_none, errW_some] <;> rfl) | (simp [*, errW_none, errW_some] <;> rfl), by repeat (first | (with_reducible first | exact HB.out | apply zA | apply zB | apply zC | refine zD ?_ GE212.out | refine zD ?_ GE213.out) | exact HB.out)⟩
     ·rw [if_neg c7] at H
      have c7b0 : (a0_4 == a1_4) = false := beq_eq_false_iff_ne.mpr c7
      have c7b1 : (a0_4 != a1_4) = true := bne_iff_ne.mpr c7
      obtain rfl := Option.some.inj H
      go_enter Try.func62, Try.ntmps62
      go_wp2_with (first | ((with_reducible refine gate_dst (N := 2) rfl ?_); refine box_event ?hg (N := 2) ?hd (cs := #[.string a0_0, .int .i64 a0_1, .int .i64 a0_2, .int .i64 a0_3, .int .i64 a0_4]) (t := 67) ?hr ?_; (case hd => rfl); (case hg => rfl); (case hr => first | (go_simp; done) | (go_simp; rfl)); intro gb212 hg w13 hbox hb; have n0_ := zK (zL (by repeat (first | (with_reducible first | exact HB.out | apply zA | apply zB | apply zC) | exact HB.out)) hb); have n1_ := zK (hbox); have n2_ := zK ((by rw [hg]; exact (zN (by repeat (first | (with_reducible first | exact HB.out | apply zA | apply zB | apply zC) | exact HB.out))) : w.heap.size ≤ gb212)); have n3_ := n2_; clear HB; have HB := n0_; have BK212 := n1_; have GW212 := n2_; have GE212 := n3_; clear n0_ n1_ n2_ n3_; clear hb hbox hg) | ((with_reducible refine gate_dst (N := 3) rfl ?_); refine box_event ?hg (N := 3) ?hd (cs := #[.string a1_0, .int .i64 a1_1, .int .i64 a1_2, .int .i64 a1_3, .int .i64 a1_4]) (t := 67) ?hr ?_; (case hd => rfl); (case hg => rfl); (case hr => first | (go_simp; done) | (go_simp; rfl)); intro gb213 hg w14 hbox hb; have n0_ := zK (zM (g := gb212) (o := .cells #[.string a0_0, .int .i64 a0_1, .int .i64 a0_2, .int .i64 a0_3, .int .i64 a0_4] 67 (0, 0)) (by (with_reducible repeat (first | refine zE ?_ _ | refine zF ?_ | refine zG ?_ _)); exact BK212.out) hb); have n1_ := zK (zL (by repeat (first | (with_reducible first | exact HB.out | apply zA | apply zB | apply zC | refine zD ?_ GE212.out) | exact HB.out)) hb); have n2_ := zK (hbox); have n3_ := zK ((by rw [hg]; exact (zN (by repeat (first | (with_reducible first | exact HB.out | apply zA | apply zB | apply zC | refine zD ?_ GE212.out) | exact HB.out))) : w.heap.size ≤ gb213)); have n4_ := n3_; have n5_ := zK ((by rw [hg]; exact Nat.ne_of_lt (blk_lt (g := gb212) (o := .cells #[.string a0_0, .int .i64 a0_1, .int .i64 a0_2, .int .i64 a0_3, .int .i64 a0_4] 67 (0, 0)) (by (with_reducible repeat (first | refine zE ?_ _ | refine zF ?_ | refine zG ?_ _)); exact BK212.out)) : gb212 ≠ gb213)); have n6_ := zK n5_.out.symm; clear BK212; clear HB; have BK212 := n0_; have HB := n1_; have BK213 := n2_; have GW213 := n3_; have GE213 := n4_; have NB212_213 := n5_; have NB213_212 := n6_; clear n0_ n1_ n2_ n3_ n4_ n5_ n6_; clear hb hbox hg; have hnb15 := NB212_213.out; have hnc15 := NB213_212.out; have hcz16_0 : w14.cell? ⟨gb212, 0, none⟩ = some (.string a0_0) := (zI BK212.out 0).trans rfl; have hcz16_1 : w14.cell? ⟨gb212, 1, none⟩ = some (.int .i64 a0_1) := (zI BK212.out 1).trans rfl; have hcz16_2 : w14.cell? ⟨gb212, 2, none⟩ = some (.int .i64 a0_2) := (zI BK212.out 2).trans rfl; have hcz16_3 : w14.cell? ⟨gb212, 3, none⟩ = some (.int .i64 a0_3) := (zI BK212.out 3).trans rfl; have hcz16_4 : w14.cell? ⟨gb212, 4, none⟩ = some (.int .i64 a0_4) := (zI BK212.out 4).trans rfl; have hfz16_0 := zH BK212.out 0; have hfz16_1 := zH BK212.out 1; have hfz16_2 := zH BK212.out 2; have hfz16_3 := zH BK212.out 3; have hfz16_4 := zH BK212.out 4; have hcz17_0 : w14.cell? ⟨gb213, 0, none⟩ = some (.string a1_0) := (zI BK213.out 0).trans rfl; have hcz17_1 : w14.cell? ⟨gb213, 1, none⟩ = some (.int .i64 a1_1) := (zI BK213.out 1).trans rfl; have hcz17_2 : w14.cell? ⟨gb213, 2, none⟩ = some (.int .i64 a1_2) := (zI BK213.out 2).trans rfl; have hcz17_3 : w14.cell? ⟨gb213, 3, none⟩ = some (.int .i64 a1_3) := (zI BK213.out 3).trans rfl; have hcz17_4 : w14.cell? ⟨gb213, 4, none⟩ = some (.int .i64 a1_4) := (zI BK213.out 4).trans rfl; have hfz17_0 := zH BK213.out 0; have hfz17_1 := zH BK213.out 1; have hfz17_2 := zH BK213.out 2; have hfz17_3 := zH BK213.out 3; have hfz17_4 := zH BK213.out 4))
      go_ret
      exact ⟨by first | rfl | (simp [errW_none, errW_some] <;> rfl) | (simp [*, errW_none, errW_some] <;> rfl), by repeat (first | (with_reducible first | exact HB.out | apply zA | apply zB | apply zC | refine zD ?_ GE212.out | refine zD ?_ GE213.out) | exact HB.out)⟩
    ·rw [if_neg c6] at H
     have c6b0 : (a0_3 == a1_3) = false := beq_eq_false_iff_ne.mpr c6
     have c6b1 : (a0_3 != a1_3) = true := bne_iff_ne.mpr c6
     obtain rfl := Option.some.inj H
     go_enter Try.func62, Try.ntmps62
     go_wp2_with (first | ((with_reducible refine gate_dst (N := 2) rfl ?_); refine box_event ?hg (N := 2) ?hd (cs := #[.string a0_0, .int .i64 a0_1, .int .i64 a0_2, .int .i64 a0_3, .int .i64 a0_4]) (t := 67) ?hr ?_; (case hd => rfl); (case hg => rfl); (case hr => first | (go_simp; done) | (go_simp; rfl)); intro gb212 hg w18 hbox hb; have n0_ := zK (zL (by repeat (first | (with_reducible first | exact HB.out | apply zA | apply zB | apply zC) | exact HB.out)) hb); have n1_ := zK (hbox); have n2_ := zK ((by rw [hg]; exact (zN (by repeat (first | (with_reducible first | exact HB.out | apply zA | apply zB | apply zC) | exact HB.out))) : w.heap.size ≤ gb212)); have n3_ := n2_; clear HB; have HB := n0_; have BK212 := n1_; have GW212 := n2_; have GE212 := n3_; clear n0_ n1_ n2_ n3_; clear hb hbox hg) | ((with_reducible refine gate_dst (N := 3) rfl ?_); refine box_event ?hg (N := 3) ?hd (cs := #[.string a1_0, .int .i64 a1_1, .int .i64 a1_2, .int .i64 a1_3, .int .i64 a1_4]) (t := 67) ?hr ?_; (case hd => rfl); (case hg => rfl); (case hr => first | (go_simp; done) | (go_simp; rfl)); intro gb213 hg w19 hbox hb; have n0_ := zK (zM (g := gb212) (o := .cells #[.string a0_0, .int .i64 a0_1, .int .i64 a0_2, .int .i64 a0_3, .int .i64 a0_4] 67 (0, 0)) (by (with_reducible repeat (first | refine zE ?_ _ | refine zF ?_ | refine zG ?_ _)); exact BK212.out) hb); have n1_ := zK (zL (by repeat (first | (with_reducible first | exact HB.out | apply zA | apply zB | apply zC | refine zD ?_ GE212.out) | exact HB.out)) hb); have n2_ := zK (hbox); have n3_ := zK ((by rw [hg]; exact (zN (by repeat (first | (with_reducible first | exact HB.out | apply zA | apply zB | apply zC | refine zD ?_ GE212.out) | exact HB.out))) : w.heap.size ≤ gb213)); have n4_ := n3_; have n5_ := zK ((by rw [hg]; exact Nat.ne_of_lt (blk_lt (g := gb212) (o := .cells #[.string a0_0, .int .i64 a0_1, .int .i64 a0_2, .int .i64 a0_3, .int .i64 a0_4] 67 (0, 0)) (by (with_reducible repeat (first | refine zE ?_ _ | refine zF ?_ | refine zG ?_ _)); exact BK212.out)) : gb212 ≠ gb213)); have n6_ := zK n5_.out.symm; clear BK212; clear HB; have BK212 := n0_; have HB := n1_; have BK213 := n2_; have GW213 := n3_; have GE213 := n4_; have NB212_213 := n5_; have NB213_212 := n6_; clear n0_ n1_ n2_ n3_ n4_ n5_ n6_; clear hb hbox hg; have hnb20 := NB212_213.out; have hnc20 := NB213_212.out; have hcz21_0 : w19.cell? ⟨gb212, 0, none⟩ = some (.string a0_0) := (zI BK212.out 0).trans rfl; have hcz21_1 : w19.cell? ⟨gb212, 1, none⟩ = some (.int .i64 a0_1) := (zI BK212.out 1).trans rfl; have hcz21_2 : w19.cell? ⟨gb212, 2, none⟩ = some (.int .i64 a0_2) := (zI BK212.out 2).trans rfl; have hcz21_3 : w19.cell? ⟨gb212, 3, none⟩ = some (.int .i64 a0_3) := (zI BK212.out 3).trans rfl; have hcz21_4 : w19.cell? ⟨gb212, 4, none⟩ = some (.int .i64 a0_4) := (zI BK212.out 4).trans rfl; have hfz21_0 := zH BK212.out 0; have hfz21_1 := zH BK212.out 1; have hfz21_2 := zH BK212.out 2; have hfz21_3 := zH BK212.out 3; have hfz21_4 := zH BK212.out 4; have hcz22_0 : w19.cell? ⟨gb213, 0, none⟩ = some (.string a1_0) := (zI BK213.out 0).trans rfl; have hcz22_1 : w19.cell? ⟨gb213, 1, none⟩ = some (.int .i64 a1_1) := (zI BK213.out 1).trans rfl; have hcz22_2 : w19.cell? ⟨gb213, 2, none⟩ = some (.int .i64 a1_2) := (zI BK213.out 2).trans rfl; have hcz22_3 : w19.cell? ⟨gb213, 3, none⟩ = some (.int .i64 a1_3) := (zI BK213.out 3).trans rfl; have hcz22_4 : w19.cell? ⟨gb213, 4, none⟩ = some (.int .i64 a1_4) := (zI BK213.out 4).trans rfl; have hfz22_0 := zH BK213.out 0; have hfz22_1 := zH BK213.out 1; have hfz22_2 := zH BK213.out 2; have hfz22_3 := zH BK213.out 3; have hfz22_4 := zH BK213.out 4))
     go_ret
     exact ⟨by first | rfl | (simp [errW_none, errW_some] <;> rfl) | (simp [*, errW_none, errW_some] <;> rfl), by repeat (first | (with_reducible first | exact HB.out | apply zA | apply zB | apply zC | refine zD ?_ GE212.out | refine zD ?_ GE213.out) | exact HB.out)⟩
   ·rw [if_neg c5] at H
    have c5b0 : (a0_2 == a1_2) = false := beq_eq_false_iff_ne.mpr c5
    have c5b1 : (a0_2 != a1_2) = true := bne_iff_ne.mpr c5
    obtain rfl := Option.some.inj H
    go_enter Try.func62, Try.ntmps62
    go_wp2_with (first | ((with_reducible refine gate_dst (N := 2) rfl ?_); refine box_event ?hg (N := 2) ?hd (cs := #[.string a0_0, .int .i64 a0_1, .int .i64 a0_2, .int .i64 a0_3, .int .i64 a0_4]) (t := 67) ?hr ?_; (case hd => rfl); (case hg => rfl); (case hr => first | (go_simp; done) | (go_simp; rfl)); intro gb212 hg w23 hbox hb; have n0_ := zK (zL (by repeat (first | (with_reducible first | exact HB.out | apply zA | apply zB | apply zC) | exact HB.out)) hb); have n1_ := zK (hbox); have n2_ := zK ((by rw [hg]; exact (zN (by repeat (first | (with_reducible first | exact HB.out | apply zA | apply zB | apply zC) | exact HB.out))) : w.heap.size ≤ gb212)); have n3_ := n2_; clear HB; have HB := n0_; have BK212 := n1_; have GW212 := n2_; have GE212 := n3_; clear n0_ n1_ n2_ n3_; clear hb hbox hg) | ((with_reducible refine gate_dst (N := 3) rfl ?_); refine box_event ?hg (N := 3) ?hd (cs := #[.string a1_0, .int .i64 a1_1, .int .i64 a1_2, .int .i64 a1_3, .int .i64 a1_4]) (t := 67) ?hr ?_; (case hd => rfl); (case hg => rfl); (case hr => first | (go_simp; done) | (go_simp; rfl)); intro gb213 hg w24 hbox hb; have n0_ := zK (zM (g := gb212) (o := .cells #[.string a0_0, .int .i64 a0_1, .int .i64 a0_2, .int .i64 a0_3, .int .i64 a0_4] 67 (0, 0)) (by (with_reducible repeat (first | refine zE ?_ _ | refine zF ?_ | refine zG ?_ _)); exact BK212.out) hb); have n1_ := zK (zL (by repeat (first | (with_reducible first | exact HB.out | apply zA | apply zB | apply zC | refine zD ?_ GE212.out) | exact HB.out)) hb); have n2_ := zK (hbox); have n3_ := zK ((by rw [hg]; exact (zN (by repeat (first | (with_reducible first | exact HB.out | apply zA | apply zB | apply zC | refine zD ?_ GE212.out) | exact HB.out))) : w.heap.size ≤ gb213)); have n4_ := n3_; have n5_ := zK ((by rw [hg]; exact Nat.ne_of_lt (blk_lt (g := gb212) (o := .cells #[.string a0_0, .int .i64 a0_1, .int .i64 a0_2, .int .i64 a0_3, .int .i64 a0_4] 67 (0, 0)) (by (with_reducible repeat (first | refine zE ?_ _ | refine zF ?_ | refine zG ?_ _)); exact BK212.out)) : gb212 ≠ gb213)); have n6_ := zK n5_.out.symm; clear BK212; clear HB; have BK212 := n0_; have HB := n1_; have BK213 := n2_; have GW213 := n3_; have GE213 := n4_; have NB212_213 := n5_; have NB213_212 := n6_; clear n0_ n1_ n2_ n3_ n4_ n5_ n6_; clear hb hbox hg; have hnb25 := NB212_213.out; have hnc25 := NB213_212.out; have hcz26_0 : w24.cell? ⟨gb212, 0, none⟩ = some (.string a0_0) := (zI BK212.out 0).trans rfl; have hcz26_1 : w24.cell? ⟨gb212, 1, none⟩ = some (.int .i64 a0_1) := (zI BK212.out 1).trans rfl; have hcz26_2 : w24.cell? ⟨gb212, 2, none⟩ = some (.int .i64 a0_2) := (zI BK212.out 2).trans rfl; have hcz26_3 : w24.cell? ⟨gb212, 3, none⟩ = some (.int .i64 a0_3) := (zI BK212.out 3).trans rfl; have hcz26_4 : w24.cell? ⟨gb212, 4, none⟩ = some (.int .i64 a0_4) := (zI BK212.out 4).trans rfl; have hfz26_0 := zH BK212.out 0; have hfz26_1 := zH BK212.out 1; have hfz26_2 := zH BK212.out 2; have hfz26_3 := zH BK212.out 3; have hfz26_4 := zH BK212.out 4; have hcz27_0 : w24.cell? ⟨gb213, 0, none⟩ = some (.string a1_0) := (zI BK213.out 0).trans rfl; have hcz27_1 : w24.cell? ⟨gb213, 1, none⟩ = some (.int .i64 a1_1) := (zI BK213.out 1).trans rfl; have hcz27_2 : w24.cell? ⟨gb213, 2, none⟩ = some (.int .i64 a1_2) := (zI BK213.out 2).trans rfl; have hcz27_3 : w24.cell? ⟨gb213, 3, none⟩ = some (.int .i64 a1_3) := (zI BK213.out 3).trans rfl; have hcz27_4 : w24.cell? ⟨gb213, 4, none⟩ = some (.int .i64 a1_4) := (zI BK213.out 4).trans rfl; have hfz27_0 := zH BK213.out 0; have hfz27_1 := zH BK213.out 1; have hfz27_2 := zH BK213.out 2; have hfz27_3 := zH BK213.out 3; have hfz27_4 := zH BK213.out 4))
    go_ret
    exact ⟨by first | rfl | (simp [errW_none, errW_some] <;> rfl) | (simp [*, errW_none, errW_some] <;> rfl), by repeat (first | (with_reducible first | exact HB.out | apply zA | apply zB | apply zC | refine zD ?_ GE212.out | refine zD ?_ GE213.out) | exact HB.out)⟩
  ·rw [if_neg c4] at H
   have c4b0 : (a0_1 == a1_1) = false := beq_eq_false_iff_ne.mpr c4
   have c4b1 : (a0_1 != a1_1) = true := bne_iff_ne.mpr c4
   obtain rfl := Option.some.inj H
   go_enter Try.func62, Try.ntmps62
   go_wp2_with (first | ((with_reducible refine gate_dst (N := 2) rfl ?_); refine box_event ?hg (N := 2) ?hd (cs := #[.string a0_0, .int .i64 a0_1, .int .i64 a0_2, .int .i64 a0_3, .int .i64 a0_4]) (t := 67) ?hr ?_; (case hd => rfl); (case hg => rfl); (case hr => first | (go_simp; done) | (go_simp; rfl)); intro gb212 hg w28 hbox hb; have n0_ := zK (zL (by repeat (first | (with_reducible first | exact HB.out | apply zA | apply zB | apply zC) | exact HB.out)) hb); have n1_ := zK (hbox); have n2_ := zK ((by rw [hg]; exact (zN (by repeat (first | (with_reducible first | exact HB.out | apply zA | apply zB | apply zC) | exact HB.out))) : w.heap.size ≤ gb212)); have n3_ := n2_; clear HB; have HB := n0_; have BK212 := n1_; have GW212 := n2_; have GE212 := n3_; clear n0_ n1_ n2_ n3_; clear hb hbox hg) | ((with_reducible refine gate_dst (N := 3) rfl ?_); refine box_event ?hg (N := 3) ?hd (cs := #[.string a1_0, .int .i64 a1_1, .int .i64 a1_2, .int .i64 a1_3, .int .i64 a1_4]) (t := 67) ?hr ?_; (case hd => rfl); (case hg => rfl); (case hr => first | (go_simp; done) | (go_simp; rfl)); intro gb213 hg w29 hbox hb; have n0_ := zK (zM (g := gb212) (o := .cells #[.string a0_0, .int .i64 a0_1, .int .i64 a0_2, .int .i64 a0_3, .int .i64 a0_4] 67 (0, 0)) (by (with_reducible repeat (first | refine zE ?_ _ | refine zF ?_ | refine zG ?_ _)); exact BK212.out) hb); have n1_ := zK (zL (by repeat (first | (with_reducible first | exact HB.out | apply zA | apply zB | apply zC | refine zD ?_ GE212.out) | exact HB.out)) hb); have n2_ := zK (hbox); have n3_ := zK ((by rw [hg]; exact (zN (by repeat (first | (with_reducible first | exact HB.out | apply zA | apply zB | apply zC | refine zD ?_ GE212.out) | exact HB.out))) : w.heap.size ≤ gb213)); have n4_ := n3_; have n5_ := zK ((by rw [hg]; exact Nat.ne_of_lt (blk_lt (g := gb212) (o := .cells #[.string a0_0, .int .i64 a0_1, .int .i64 a0_2, .int .i64 a0_3, .int .i64 a0_4] 67 (0, 0)) (by (with_reducible repeat (first | refine zE ?_ _ | refine zF ?_ | refine zG ?_ _)); exact BK212.out)) : gb212 ≠ gb213)); have n6_ := zK n5_.out.symm; clear BK212; clear HB; have BK212 := n0_; have HB := n1_; have BK213 := n2_; have GW213 := n3_; have GE213 := n4_; have NB212_213 := n5_; have NB213_212 := n6_; clear n0_ n1_ n2_ n3_ n4_ n5_ n6_; clear hb hbox hg; have hnb30 := NB212_213.out; have hnc30 := NB213_212.out; have hcz31_0 : w29.cell? ⟨gb212, 0, none⟩ = some (.string a0_0) := (zI BK212.out 0).trans rfl; have hcz31_1 : w29.cell? ⟨gb212, 1, none⟩ = some (.int .i64 a0_1) := (zI BK212.out 1).trans rfl; have hcz31_2 : w29.cell? ⟨gb212, 2, none⟩ = some (.int .i64 a0_2) := (zI BK212.out 2).trans rfl; have hcz31_3 : w29.cell? ⟨gb212, 3, none⟩ = some (.int .i64 a0_3) := (zI BK212.out 3).trans rfl; have hcz31_4 : w29.cell? ⟨gb212, 4, none⟩ = some (.int .i64 a0_4) := (zI BK212.out 4).trans rfl; have hfz31_0 := zH BK212.out 0; have hfz31_1 := zH BK212.out 1; have hfz31_2 := zH BK212.out 2; have hfz31_3 := zH BK212.out 3; have hfz31_4 := zH BK212.out 4; have hcz32_0 : w29.cell? ⟨gb213, 0, none⟩ = some (.string a1_0) := (zI BK213.out 0).trans rfl; have hcz32_1 : w29.cell? ⟨gb213, 1, none⟩ = some (.int .i64 a1_1) := (zI BK213.out 1).trans rfl; have hcz32_2 : w29.cell? ⟨gb213, 2, none⟩ = some (.int .i64 a1_2) := (zI BK213.out 2).trans rfl; have hcz32_3 : w29.cell? ⟨gb213, 3, none⟩ = some (.int .i64 a1_3) := (zI BK213.out 3).trans rfl; have hcz32_4 : w29.cell? ⟨gb213, 4, none⟩ = some (.int .i64 a1_4) := (zI BK213.out 4).trans rfl; have hfz32_0 := zH BK213.out 0; have hfz32_1 := zH BK213.out 1; have hfz32_2 := zH BK213.out 2; have hfz32_3 := zH BK213.out 3; have hfz32_4 := zH BK213.out 4))
   go_ret
   exact ⟨by first | rfl | (simp [errW_none, errW_some] <;> rfl) | (simp [*, errW_none, errW_some] <;> rfl), by repeat (first | (with_reducible first | exact HB.out | apply zA | apply zB | apply zC | refine zD ?_ GE212.out | refine zD ?_ GE213.out) | exact HB.out)⟩
 ·rw [if_neg c3] at H
  have c3b0 : (a0_0.toList == a1_0.toList) = false := beq_eq_false_iff_ne.mpr c3
  have c3b1 : (a0_0.toList != a1_0.toList) = true := bne_iff_ne.mpr c3
  obtain rfl := Option.some.inj H
  go_enter Try.func62, Try.ntmps62
  go_wp2_with (first | ((with_reducible refine gate_dst (N := 2) rfl ?_); refine box_event ?hg (N := 2) ?hd (cs := #[.string a0_0, .int .i64 a0_1, .int .i64 a0_2, .int .i64 a0_3, .int .i64 a0_4]) (t := 67) ?hr ?_; (case hd => rfl); (case hg => rfl); (case hr => first | (go_simp; done) | (go_simp; rfl)); intro gb212 hg w33 hbox hb; have n0_ := zK (zL (by repeat (first | (with_reducible first | exact HB.out | apply zA | apply zB | apply zC) | exact HB.out)) hb); have n1_ := zK (hbox); have n2_ := zK ((by rw [hg]; exact (zN (by repeat (first | (with_reducible first | exact HB.out | apply zA | apply zB | apply zC) | exact HB.out))) : w.heap.size ≤ gb212)); have n3_ := n2_; clear HB; have HB := n0_; have BK212 := n1_; have GW212 := n2_; have GE212 := n3_; clear n0_ n1_ n2_ n3_; clear hb hbox hg) | ((with_reducible refine gate_dst (N := 3) rfl ?_); refine box_event ?hg (N := 3) ?hd (cs := #[.string a1_0, .int .i64 a1_1, .int .i64 a1_2, .int .i64 a1_3, .int .i64 a1_4]) (t := 67) ?hr ?_; (case hd => rfl); (case hg => rfl); (case hr => first | (go_simp; done) | (go_simp; rfl)); intro gb213 hg w34 hbox hb; have n0_ := zK (zM (g := gb212) (o := .cells #[.string a0_0, .int .i64 a0_1, .int .i64 a0_2, .int .i64 a0_3, .int .i64 a0_4] 67 (0, 0)) (by (with_reducible repeat (first | refine zE ?_ _ | refine zF ?_ | refine zG ?_ _)); exact BK212.out) hb); have n1_ := zK (zL (by repeat (first | (with_reducible first | exact HB.out | apply zA | apply zB | apply zC | refine zD ?_ GE212.out) | exact HB.out)) hb); have n2_ := zK (hbox); have n3_ := zK ((by rw [hg]; exact (zN (by repeat (first | (with_reducible first | exact HB.out | apply zA | apply zB | apply zC | refine zD ?_ GE212.out) | exact HB.out))) : w.heap.size ≤ gb213)); have n4_ := n3_; have n5_ := zK ((by rw [hg]; exact Nat.ne_of_lt (blk_lt (g := gb212) (o := .cells #[.string a0_0, .int .i64 a0_1, .int .i64 a0_2, .int .i64 a0_3, .int .i64 a0_4] 67 (0, 0)) (by (with_reducible repeat (first | refine zE ?_ _ | refine zF ?_ | refine zG ?_ _)); exact BK212.out)) : gb212 ≠ gb213)); have n6_ := zK n5_.out.symm; clear BK212; clear HB; have BK212 := n0_; have HB := n1_; have BK213 := n2_; have GW213 := n3_; have GE213 := n4_; have NB212_213 := n5_; have NB213_212 := n6_; clear n0_ n1_ n2_ n3_ n4_ n5_ n6_; clear hb hbox hg; have hnb35 := NB212_213.out; have hnc35 := NB213_212.out; have hcz36_0 : w34.cell? ⟨gb212, 0, none⟩ = some (.string a0_0) := (zI BK212.out 0).trans rfl; have hcz36_1 : w34.cell? ⟨gb212, 1, none⟩ = some (.int .i64 a0_1) := (zI BK212.out 1).trans rfl; have hcz36_2 : w34.cell? ⟨gb212, 2, none⟩ = some (.int .i64 a0_2) := (zI BK212.out 2).trans rfl; have hcz36_3 : w34.cell? ⟨gb212, 3, none⟩ = some (.int .i64 a0_3) := (zI BK212.out 3).trans rfl; have hcz36_4 : w34.cell? ⟨gb212, 4, none⟩ = some (.int .i64 a0_4) := (zI BK212.out 4).trans rfl; have hfz36_0 := zH BK212.out 0; have hfz36_1 := zH BK212.out 1; have hfz36_2 := zH BK212.out 2; have hfz36_3 := zH BK212.out 3; have hfz36_4 := zH BK212.out 4; have hcz37_0 : w34.cell? ⟨gb213, 0, none⟩ = some (.string a1_0) := (zI BK213.out 0).trans rfl; have hcz37_1 : w34.cell? ⟨gb213, 1, none⟩ = some (.int .i64 a1_1) := (zI BK213.out 1).trans rfl; have hcz37_2 : w34.cell? ⟨gb213, 2, none⟩ = some (.int .i64 a1_2) := (zI BK213.out 2).trans rfl; have hcz37_3 : w34.cell? ⟨gb213, 3, none⟩ = some (.int .i64 a1_3) := (zI BK213.out 3).trans rfl; have hcz37_4 : w34.cell? ⟨gb213, 4, none⟩ = some (.int .i64 a1_4) := (zI BK213.out 4).trans rfl; have hfz37_0 := zH BK213.out 0; have hfz37_1 := zH BK213.out 1; have hfz37_2 := zH BK213.out 2; have hfz37_3 := zH BK213.out 3; have hfz37_4 := zH BK213.out 4))
  go_ret
  exact ⟨by first | rfl | (simp [errW_none, errW_some] <;> rfl) | (simp [*, errW_none, errW_some] <;> rfl), by repeat (first | (with_reducible first | exact HB.out | apply zA | apply zB | apply zC | refine zD ?_ GE212.out | refine zD ?_ GE213.out) | exact HB.out)⟩

/-! ### laws_eqInstrS: function 18 -/
def laws_eqInstrS.l0 : Nat → List (S67) → List (S67) → Int → Option (Bool)
 | 0, _, _, _ => none
 | k + 1, x0, x1, x5 => if x5 < (x0.length : Int) then (if 0 ≤ x5 then (if x5 < (x1.length : Int) then ((laws_eqInstr.f ((rd_T67 x0 x5).f0) ((rd_T67 x0 x5).f1) ((rd_T67 x0 x5).f2) ((rd_T67 x0 x5).f3) ((rd_T67 x0 x5).f4) ((rd_T67 x1 x5).f0) ((rd_T67 x1 x5).f1) ((rd_T67 x1 x5).f2) ((rd_T67 x1 x5).f3) ((rd_T67 x1 x5).f4)).bind fun t216 => (if t216 = true then (laws_eqInstrS.l0 k x0 x1 (wrap64 (x5 + 1))) else (some false))) else (none)) else (none)) else (some true)
def laws_eqInstrS.f (k : Nat) (l0 : List (S67)) (l1 : List (S67)) : Option (Bool) := if (l0.length : Int) = (l1.length : Int) then (laws_eqInstrS.l0 k l0 l1 0) else (some false)
theorem laws_eqInstrS.mono_l : ∀ k, (∀ y0 y1 y2, LeO (laws_eqInstrS.l0 k y0 y1 y2) (laws_eqInstrS.l0 (k + 1) y0 y1 y2))
 | 0 => fun _ _ _ r h => by simp [laws_eqInstrS.l0] at h
 | k + 1 => by
  have ih0 := laws_eqInstrS.mono_l k
  ·intro y0 y1 y2
   unfold laws_eqInstrS.l0
   repeat' first
   | (with_reducible exact ih0 _ _ _)
   | (with_reducible exact LeO.refl _)
   | (with_reducible exact LeO.none _)
   | (with_reducible refine LeO.ite ?_ ?_)
   | (with_reducible refine LeO.bind ?_ (fun _ => ?_))
   | exact ih0 _ _ _
   | exact LeO.none _
   | refine LeO.ite ?_ ?_
   | refine LeO.bind ?_ (fun _ => ?_)
theorem laws_eqInstrS.mono : ∀ a0 a1 k, LeO (laws_eqInstrS.f k a0 a1) (laws_eqInstrS.f (k + 1) a0 a1) := by
 intro a0 a1 k
 have ih0 := laws_eqInstrS.mono_l k
 unfold laws_eqInstrS.f
 repeat' first
   | (with_reducible exact ih0 _ _ _)
   | (with_reducible exact LeO.refl _)
   | (with_reducible exact LeO.none _)
   | (with_reducible refine LeO.ite ?_ ?_)
   | (with_reducible refine LeO.bind ?_ (fun _ => ?_))
   | exact ih0 _ _ _
   | exact LeO.none _
   | refine LeO.ite ?_ ?_
   | refine LeO.bind ?_ (fun _ => ?_)
def laws_eqInstrS.T6 : Bool × List (List Nat × List Nat) := (true, [([], []), ([], []), ([0, 1], [0, 1]), ([2], [2]), ([], []), ([], []), ([4, 5], [4, 5]), ([6], [6]), ([3, 7], [3, 7]), ([8], [8])])
def laws_eqInstrS.B6 : List Nat := [0, 0, 3, 7, 0, 0, 48, 112, 255, 511]
theorem laws_eqInstrS.tab6 : rtab .any (opsOf Try.f18 6) = laws_eqInstrS.T6 := by kernel_rfl
theorem laws_eqInstrS.bits6 : waitsOk laws_eqInstrS.T6.2 laws_eqInstrS.B6 = true := by kernel_rfl
set_option maxHeartbeats 8000000 in
set_option maxRecDepth 100000 in
theorem laws_eqInstrS.calls (k : Nat) (A0 : Option Addr) (c0 : Nat) (l0 : List (S67)) (A1 : Option Addr) (c1 : Nat) (l1 : List (S67)) (r : Bool) (w : World) (hr0 : Kd.C k67 w A0 l0.length l0) (hc0 : l0.length ≤ c0) (hr1 : Kd.C k67 w A1 l1.length l1) (hc1 : l1.length ≤ c1) (h : laws_eqInstrS.f k l0 l1 = some r) :
  Calls Try.prog 18 #[.slice A0 l0.length c0, .slice A1 l1.length c1] w fun e w' => e = .returned (.bool r) ∧ Below w.heap.size w w' := by
 have hu67 := Try.underlying67
 have HR0 := zK hr0
 have HC0 := zK hc0
 clear hr0 hc0
 have HR1 := zK hr1
 have HC1 := zK hc1
 clear hr1 hc1
 have HB := zK (Below.refl w.heap.size w)
 have H : (if (l0.length : Int) = (l1.length : Int) then (laws_eqInstrS.l0 k l0 l1 0) else (some false)) = some r := h
 clear h
 by_cases c3 : (l0.length : Int) = (l1.length : Int)
 ·rw [if_pos c3] at H
  have c3b0 : ((l0.length : Int) == (l1.length : Int)) = true := beq_iff_eq.mpr c3
  have c3b1 : ((l0.length : Int) != (l1.length : Int)) = false := bne_eq_false_iff_eq.mpr c3
  have c3b2 : (l0.length == l1.length) = true := by first | simpa using c3 | (simp at c3 ⊢; omega)
  clear c3
  have H' := zK H
  clear H
  go_enter Try.func18, Try.ntmps18
  go_wp2
  go_loopg [5] k (fun kq v5 w' => ∃ (x5_1 : Int), v5 = .int .i64 x5_1 ∧ Aside0 (laws_eqInstrS.l0 kq l0 l1 x5_1 = some r) ∧ Aside0 (kq ≤ k) ∧ Aside0 (Below w.heap.size w w'))
  case atStart => exact ⟨(0), (by first | rfl | (simp; done) | (simp [*]; done)), H', ⟨Nat.le_refl _⟩, ⟨by repeat (first | (with_reducible first | exact HB.out | apply zA | apply zB | apply zC) | exact HB.out)⟩⟩
  case round =>
   clear H'
   try clear c1
   try clear p2
   try clear c3
   try clear c3b0
   try clear c3b1
   try clear c3b2
   obtain ⟨x5_1, rfl, HA, HK1, HB⟩ := hrel
   cases gk with
   | zero => exact absurd HA.out (by simp [laws_eqInstrS.l0])
   | succ k1 =>
    have H := HA.out
    clear HA
    simp only [laws_eqInstrS.l0] at H
    by_cases c4 : x5_1 < (l0.length : Int)
    ·rw [if_pos c4] at H
     have c4b0 : decide (x5_1 < (l0.length : Int)) = true := decide_eq_true c4
     clear c4
     by_cases c5 : 0 ≤ x5_1
     ·rw [if_pos c5] at H
      have c5b0 : decide (0 ≤ x5_1) = true := decide_eq_true c5
      clear c5
      by_cases c6 : x5_1 < (l1.length : Int)
      ·rw [if_pos c6] at H
       have c6b0 : decide (x5_1 < (l1.length : Int)) = true := decide_eq_true c6
       clear c6
       replace H := Option.bind_eq_some_iff.mp H
       obtain ⟨t216, A70, H⟩ := H
       replace H : (if t216 = true then (laws_eqInstrS.l0 k1 l0 l1 (wrap64 (x5_1 + 1))) else (some false)) = some r := H
       have A7 := zK A70
       clear A70
       by_cases c8 : t216 = true
       ·subst c8
        rw [if_pos rfl] at H
        have H' := zK H
        clear H
        try go_wp2
        have n0_ := zK (zC HB.out)
        clear HB
        have HB := n0_
        clear n0_
        have p214 : 0 ≤ (x5_1 : Int) := zo
        have q214 : x5_1 < (l0.length : Int) := zo
        obtain ⟨ad214, e214, hx214_0, hx214_1, hx214_2, hx214_3, hx214_4⟩ := at_T67 HR0.out x5_1 p214 q214
        have hw214_4 := hx214_4
        have hw214_3 := hx214_3
        have hw214_2 := hx214_2
        have hw214_1 := hx214_1
        have hw214_0 := hx214_0
        cases e214
        replace hx214_0 := zt HB.out hx214_0
        replace hx214_1 := zt HB.out hx214_1
        replace hx214_2 := zt HB.out hx214_2
        replace hx214_3 := zt HB.out hx214_3
        replace hx214_4 := zt HB.out hx214_4
        replace p214 := eq_true p214
        replace q214 := eq_true q214
        have p215 : 0 ≤ (x5_1 : Int) := zo
        have q215 : x5_1 < (l1.length : Int) := zo
        obtain ⟨ad215, e215, hx215_0, hx215_1, hx215_2, hx215_3, hx215_4⟩ := at_T67 HR1.out x5_1 p215 q215
        have hw215_4 := hx215_4
        have hw215_3 := hx215_3
        have hw215_2 := hx215_2
        have hw215_1 := hx215_1
        have hw215_0 := hx215_0
        cases e215
        replace hx215_0 := zt HB.out hx215_0
        replace hx215_1 := zt HB.out hx215_1
        replace hx215_2 := zt HB.out hx215_2
        replace hx215_3 := zt HB.out hx215_3
        replace hx215_4 := zt HB.out hx215_4
        replace p215 := eq_true p215
        replace q215 := eq_true q215
        refine start_ (n := 10) (S := fun w' => w'.cell? (ad214.add ((x5_1).toNat * 5)) = some (.string ((rd_T67 l0 x5_1).f0)) ∧ w'.cell? ⟨(ad214.add ((x5_1).toNat * 5)).block, (ad214.add ((x5_1).toNat * 5)).off + 1, none⟩ = some (.int .i64 ((rd_T67 l0 x5_1).f1)) ∧ w'.cell? ⟨(ad214.add ((x5_1).toNat * 5)).block, (ad214.add ((x5_1).toNat * 5)).off + 2, none⟩ = some (.int .i64 ((rd_T67 l0 x5_1).f2)) ∧ w'.cell? ⟨(ad214.add ((x5_1).toNat * 5)).block, (ad214.add ((x5_1).toNat * 5)).off + 3, none⟩ = some (.int .i64 ((rd_T67 l0 x5_1).f3)) ∧ w'.cell? ⟨(ad214.add ((x5_1).toNat * 5)).block, (ad214.add ((x5_1).toNat * 5)).off + 4, none⟩ = some (.int .i64 ((rd_T67 l0 x5_1).f4)) ∧ w'.cell? (ad215.add ((x5_1).toNat * 5)) = some (.string ((rd_T67 l1 x5_1).f0)) ∧ w'.cell? ⟨(ad215.add ((x5_1).toNat * 5)).block, (ad215.add ((x5_1).toNat * 5)).off + 1, none⟩ = some (.int .i64 ((rd_T67 l1 x5_1).f1)) ∧ w'.cell? ⟨(ad215.add ((x5_1).toNat * 5)).block, (ad215.add ((x5_1).toNat * 5)).off + 2, none⟩ = some (.int .i64 ((rd_T67 l1 x5_1).f2)) ∧ w'.cell? ⟨(ad215.add ((x5_1).toNat * 5)).block, (ad215.add ((x5_1).toNat * 5)).off + 3, none⟩ = some (.int .i64 ((rd_T67 l1 x5_1).f3)) ∧ w'.cell? ⟨(ad215.add ((x5_1).toNat * 5)).block, (ad215.add ((x5_1).toNat * 5)).off + 4, none⟩ = some (.int .i64 ((rd_T67 l1 x5_1).f4))) (ds := []) #[false, false, false, false, false, false, false, false, false, false] (by kernel_rfl) rfl rfl ⟨(zt HB.out hw214_0), (zt HB.out hw214_1), (zt HB.out hw214_2), (zt HB.out hw214_3), (zt HB.out hw214_4), (zt HB.out hw215_0), (zt HB.out hw215_1), (zt HB.out hw215_2), (zt HB.out hw215_3), (zt HB.out hw215_4)⟩ (fun hHeld => ?_); refine with_tabW laws_eqInstrS.tab6 laws_eqInstrS.bits6 (fun HT_ HW_ => ?_)
        generalize wr.drew = w9 at HB hx214_0 hx214_1 hx214_2 hx214_3 hx214_4 hx215_0 hx215_1 hx215_2 hx215_3 hx215_4 hHeld ⊢
        refine pure_ (i := 0) (N := some 17) (v := ?_) (a' := ?_) #[true, false, false, false, false, false, false, false, false, false] rfl rfl (any_of HT_.out (by kernel_rfl)) (fun _ _ _ h => h) (Or.inl ⟨by rfl, ?_⟩) ?_ ?_
        rotate_left
        ·intro w'
         go_simp
         with_reducible rfl
        rotate_left
        ·simp only [Act.put, z1, z2, z3, i64_w, i32_w]
         rfl
        refine pure_ (i := 1) (N := some 18) (v := ?_) (a' := ?_) #[true, true, false, false, false, false, false, false, false, false] rfl rfl (any_of HT_.out (by kernel_rfl)) (fun _ _ _ h => h) (Or.inl ⟨by rfl, ?_⟩) ?_ ?_
        rotate_left
        ·intro w'
         go_simp
         with_reducible rfl
        rotate_left
        ·simp only [Act.put, z1, z2, z3, i64_w, i32_w]
         rfl
        refine pure_ (i := 2) (N := some 19) (v := ?_) (a' := ?_) #[true, true, true, false, false, false, false, false, false, false] rfl rfl (any_of HT_.out (by kernel_rfl)) (fun _ _ _ h => h) (Or.inl ⟨by rfl, ?_⟩) ?_ ?_
        rotate_left
        ·intro w'
         go_simp
         with_reducible rfl
        rotate_left
        ·simp only [Act.put, z1, z2, z3, i64_w, i32_w]
         rfl
        refine pure_ (i := 4) (N := some 21) (v := ?_) (a' := ?_) #[true, true, true, false, true, false, false, false, false, false] rfl rfl (any_of HT_.out (by kernel_rfl)) (fun _ _ _ h => h) (Or.inl ⟨by rfl, ?_⟩) ?_ ?_
        rotate_left
        ·intro w'
         go_simp
         with_reducible rfl
        rotate_left
        ·simp only [Act.put, z1, z2, z3, i64_w, i32_w]
         rfl
        refine pure_ (i := 5) (N := some 22) (v := ?_) (a' := ?_) #[true, true, true, false, true, true, false, false, false, false] rfl rfl (any_of HT_.out (by kernel_rfl)) (fun _ _ _ h => h) (Or.inl ⟨by rfl, ?_⟩) ?_ ?_
        rotate_left
        ·intro w'
         go_simp
         with_reducible rfl
        rotate_left
        ·simp only [Act.put, z1, z2, z3, i64_w, i32_w]
         rfl
        refine pure_ (i := 6) (N := some 23) (v := ?_) (a' := ?_) #[true, true, true, false, true, true, true, false, false, false] rfl rfl (any_of HT_.out (by kernel_rfl)) (fun _ _ _ h => h) (Or.inl ⟨by rfl, ?_⟩) ?_ ?_
        rotate_left
        ·intro w'
         go_simp
         with_reducible rfl
        rotate_left
        ·simp only [Act.put, z1, z2, z3, i64_w, i32_w]
         rfl
        refine take_ (i := 3) (N := some 20) (v := ?_) (a' := ?_) #[true, true, true, true, true, true, true, false, false, false] rfl rfl (take_ofW HT_.out HW_.out (by kernel_rfl)) (fun _ _ _ h => h) (Or.inl ⟨by rfl, ?_⟩) hHeld ?_ ?_
        rotate_left
        ·rintro w' ⟨s0, s1, s2, s3, s4, s5, s6, s7, s8, s9⟩
         go_simp
         with_reducible rfl
        rotate_left
        ·simp only [Act.put, z1, z2, z3, i64_w, i32_w]
         rfl
        refine take_ (i := 7) (N := some 24) (v := ?_) (a' := ?_) #[true, true, true, true, true, true, true, true, false, false] rfl rfl (take_ofW HT_.out HW_.out (by kernel_rfl)) (fun _ _ _ h => h) (Or.inl ⟨by rfl, ?_⟩) hHeld ?_ ?_
        rotate_left
        ·rintro w' ⟨s0, s1, s2, s3, s4, s5, s6, s7, s8, s9⟩
         go_simp
         with_reducible rfl
        rotate_left
        ·simp only [Act.put, z1, z2, z3, i64_w, i32_w]
         rfl
        refine one_ (i := 8) (N := some 25) #[true, true, true, true, true, true, true, true, true, false] rfl rfl (one_of HT_.out (by kernel_rfl)) (by decide) (fun K hK => ?_)
        refine goes_ Try.func62 (by kernel_rfl) rfl #[.agg #[.string ((rd_T67 l0 x5_1).f0), .int .i64 ((rd_T67 l0 x5_1).f1), .int .i64 ((rd_T67 l0 x5_1).f2), .int .i64 ((rd_T67 l0 x5_1).f3), .int .i64 ((rd_T67 l0 x5_1).f4)], .agg #[.string ((rd_T67 l1 x5_1).f0), .int .i64 ((rd_T67 l1 x5_1).f1), .int .i64 ((rd_T67 l1 x5_1).f2), .int .i64 ((rd_T67 l1 x5_1).f3), .int .i64 ((rd_T67 l1 x5_1).f4)]] (by rfl) rfl rfl (by (try simp only [z6, z7, z8]); first | done | rfl | (simp only [z4, z5]; rfl)) ?_
        with_reducible refine (laws_eqInstr.calls ((rd_T67 l0 x5_1).f0) ((rd_T67 l0 x5_1).f1) ((rd_T67 l0 x5_1).f2) ((rd_T67 l0 x5_1).f3) ((rd_T67 l0 x5_1).f4) ((rd_T67 l1 x5_1).f0) ((rd_T67 l1 x5_1).f1) ((rd_T67 l1 x5_1).f2) ((rd_T67 l1 x5_1).f3) ((rd_T67 l1 x5_1).f4) true _ A7.out).mono ?_
        rintro e w10 ⟨rfl, hb⟩
        refine ⟨_, rfl, ?_⟩
        have n0_ := zK (zL (by repeat (first | (with_reducible first | exact HB.out | apply zA | apply zB | apply zC) | exact HB.out)) hb)
        clear HB
        have HB := n0_
        clear n0_
        (try clear hb)
        (try clear hb2)
        (try clear hk)
        (try clear hi)
        refine hK.out _ _ ⟨(zt HB.out hw214_0 :), (zt HB.out hw214_1 :), (zt HB.out hw214_2 :), (zt HB.out hw214_3 :), (zt HB.out hw214_4 :), (zt HB.out hw215_0 :), (zt HB.out hw215_1 :), (zt HB.out hw215_2 :), (zt HB.out hw215_3 :), (zt HB.out hw215_4 :)⟩ (fun hHeld => ?_)
        clear hK K
        refine norm_ (a' := ?_) ?_ ?_
        rotate_left
        ·show Act.put _ (some 25) _ = _
         simp only [Act.put, z1, z2, z3, i64_w, i32_w]
         rfl
        refine pure_ (i := 9) (N := some 26) (v := ?_) (a' := ?_) #[true, true, true, true, true, true, true, true, true, true] rfl rfl (any_of HT_.out (by kernel_rfl)) (fun _ _ _ h => h) (Or.inl ⟨by rfl, ?_⟩) ?_ ?_
        rotate_left
        ·intro w'
         go_simp
         with_reducible rfl
        rotate_left
        ·simp only [Act.put, z1, z2, z3, i64_w, i32_w]
         rfl
        refine done_ (done_of HT_.out (by kernel_rfl)) ?_
        try go_wp2
        go_roundg k1
        case measure => have := HK1.out; omega
        case rel => exact ⟨(wrap64 (x5_1 + 1)), (by first | rfl | (simp; done) | (simp [*]; done)), H', ⟨by have := HK1.out; omega⟩, ⟨by repeat (first | (with_reducible first | exact HB.out | apply zA | apply zB | apply zC) | exact HB.out)⟩⟩
       ·replace c8 := Bool.eq_false_iff.mpr c8
        subst c8
        rw [if_neg (show ¬ (false = true) by decide)] at H
        obtain rfl := Option.some.inj H
        try go_wp2
        have n0_ := zK (zC HB.out)
        clear HB
        have HB := n0_
        clear n0_
        have p214 : 0 ≤ (x5_1 : Int) := zo
        have q214 : x5_1 < (l0.length : Int) := zo
        obtain ⟨ad214, e214, hx214_0, hx214_1, hx214_2, hx214_3, hx214_4⟩ := at_T67 HR0.out x5_1 p214 q214
        have hw214_4 := hx214_4
        have hw214_3 := hx214_3
        have hw214_2 := hx214_2
        have hw214_1 := hx214_1
        have hw214_0 := hx214_0
        cases e214
        replace hx214_0 := zt HB.out hx214_0
        replace hx214_1 := zt HB.out hx214_1
        replace hx214_2 := zt HB.out hx214_2
        replace hx214_3 := zt HB.out hx214_3
        replace hx214_4 := zt HB.out hx214_4
        replace p214 := eq_true p214
        replace q214 := eq_true q214
        have p215 : 0 ≤ (x5_1 : Int) := zo
        have q215 : x5_1 < (l1.length : Int) := zo
        obtain ⟨ad215, e215, hx215_0, hx215_1, hx215_2, hx215_3, hx215_4⟩ := at_T67 HR1.out x5_1 p215 q215
        have hw215_4 := hx215_4
        have hw215_3 := hx215_3
        have hw215_2 := hx215_2
        have hw215_1 := hx215_1
        have hw215_0 := hx215_0
        cases e215
        replace hx215_0 := zt HB.out hx215_0
        replace hx215_1 := zt HB.out hx215_1
        replace hx215_2 := zt HB.out hx215_2
        replace hx215_3 := zt HB.out hx215_3
        replace hx215_4 := zt HB.out hx215_4
        replace p215 := eq_true p215
        replace q215 := eq_true q215
        refine start_ (n := 10) (S := fun w' => w'.cell? (ad214.add ((x5_1).toNat * 5)) = some (.string ((rd_T67 l0 x5_1).f0)) ∧ w'.cell? ⟨(ad214.add ((x5_1).toNat * 5)).block, (ad214.add ((x5_1).toNat * 5)).off + 1, none⟩ = some (.int .i64 ((rd_T67 l0 x5_1).f1)) ∧ w'.cell? ⟨(ad214.add ((x5_1).toNat * 5)).block, (ad214.add ((x5_1).toNat * 5)).off + 2, none⟩ = some (.int .i64 ((rd_T67 l0 x5_1).f2)) ∧ w'.cell? ⟨(ad214.add ((x5_1).toNat * 5)).block, (ad214.add ((x5_1).toNat * 5)).off + 3, none⟩ = some (.int .i64 ((rd_T67 l0 x5_1).f3)) ∧ w'.cell? ⟨(ad214.add ((x5_1).toNat * 5)).block, (ad214.add ((x5_1).toNat * 5)).off + 4, none⟩ = some (.int .i64 ((rd_T67 l0 x5_1).f4)) ∧ w'.cell? (ad215.add ((x5_1).toNat * 5)) = some (.string ((rd_T67 l1 x5_1).f0)) ∧ w'.cell? ⟨(ad215.add ((x5_1).toNat * 5)).block, (ad215.add ((x5_1).toNat * 5)).off + 1, none⟩ = some (.int .i64 ((rd_T67 l1 x5_1).f1)) ∧ w'.cell? ⟨(ad215.add ((x5_1).toNat * 5)).block, (ad215.add ((x5_1).toNat * 5)).off + 2, none⟩ = some (.int .i64 ((rd_T67 l1 x5_1).f2)) ∧ w'.cell? ⟨(ad215.add ((x5_1).toNat * 5)).block, (ad215.add ((x5_1).toNat * 5)).off + 3, none⟩ = some (.int .i64 ((rd_T67 l1 x5_1).f3)) ∧ w'.cell? ⟨(ad215.add ((x5_1).toNat * 5)).block, (ad215.add ((x5_1).toNat * 5)).off + 4, none⟩ = some (.int .i64 ((rd_T67 l1 x5_1).f4))) (ds := []) #[false, false, false, false, false, false, false, false, false, false] (by kernel_rfl) rfl rfl ⟨(zt HB.out hw214_0), (zt HB.out hw214_1), (zt HB.out hw214_2), (zt HB.out hw214_3), (zt HB.out hw214_4), (zt HB.out hw215_0), (zt HB.out hw215_1), (zt HB.out hw215_2), (zt HB.out hw215_3), (zt HB.out hw215_4)⟩ (fun hHeld => ?_); refine with_tabW laws_eqInstrS.tab6 laws_eqInstrS.bits6 (fun HT_ HW_ => ?_)
        generalize wr.drew = w11 at HB hx214_0 hx214_1 hx214_2 hx214_3 hx214_4 hx215_0 hx215_1 hx215_2 hx215_3 hx215_4 hHeld ⊢
        refine pure_ (i := 0) (N := some 17) (v := ?_) (a' := ?_) #[true, false, false, false, false, false, false, false, false, false] rfl rfl (any_of HT_.out (by kernel_rfl)) (fun _ _ _ h => h) (Or.inl ⟨by rfl, ?_⟩) ?_ ?_
        rotate_left
        ·intro w'
         go_simp
         with_reducible rfl
        rotate_left
        ·simp only [Act.put, z1, z2, z3, i64_w, i32_w]
         rfl
        refine pure_ (i := 1) (N := some 18) (v := ?_) (a' := ?_) #[true, true, false, false, false, false, false, false, false, false] rfl rfl (any_of HT_.out (by kernel_rfl)) (fun _ _ _ h => h) (Or.inl ⟨by rfl, ?_⟩) ?_ ?_
        rotate_left
        ·intro w'
         go_simp
         with_reducible rfl
        rotate_left
        ·simp only [Act.put, z1, z2, z3, i64_w, i32_w]
         rfl
        refine pure_ (i := 2) (N := some 19) (v := ?_) (a' := ?_) #[true, true, true, false, false, false, false, false, false, false] rfl rfl (any_of HT_.out (by kernel_rfl)) (fun _ _ _ h => h) (Or.inl ⟨by rfl, ?_⟩) ?_ ?_
        rotate_left
        ·intro w'
         go_simp
         with_reducible rfl
        rotate_left
        ·simp only [Act.put, z1, z2, z3, i64_w, i32_w]
         rfl
        refine pure_ (i := 4) (N := some 21) (v := ?_) (a' := ?_) #[true, true, true, false, true, false, false, false, false, false] rfl rfl (any_of HT_.out (by kernel_rfl)) (fun _ _ _ h => h) (Or.inl ⟨by rfl, ?_⟩) ?_ ?_
        rotate_left
        ·intro w'
         go_simp
         with_reducible rfl
        rotate_left
        ·simp only [Act.put, z1, z2, z3, i64_w, i32_w]
         rfl
        refine pure_ (i := 5) (N := some 22) (v := ?_) (a' := ?_) #[true, true, true, false, true, true, false, false, false, false] rfl rfl (any_of HT_.out (by kernel_rfl)) (fun _ _ _ h => h) (Or.inl ⟨by rfl, ?_⟩) ?_ ?_
        rotate_left
        ·intro w'
         go_simp
         with_reducible rfl
        rotate_left
        ·simp only [Act.put, z1, z2, z3, i64_w, i32_w]
         rfl
        refine pure_ (i := 6) (N := some 23) (v := ?_) (a' := ?_) #[true, true, true, false, true, true, true, false, false, false] rfl rfl (any_of HT_.out (by kernel_rfl)) (fun _ _ _ h => h) (Or.inl ⟨by rfl, ?_⟩) ?_ ?_
        rotate_left
        ·intro w'
         go_simp
         with_reducible rfl
        rotate_left
        ·simp only [Act.put, z1, z2, z3, i64_w, i32_w]
         rfl
        refine take_ (i := 3) (N := some 20) (v := ?_) (a' := ?_) #[true, true, true, true, true, true, true, false, false, false] rfl rfl (take_ofW HT_.out HW_.out (by kernel_rfl)) (fun _ _ _ h => h) (Or.inl ⟨by rfl, ?_⟩) hHeld ?_ ?_
        rotate_left
        ·rintro w' ⟨s0, s1, s2, s3, s4, s5, s6, s7, s8, s9⟩
         go_simp
         with_reducible rfl
        rotate_left
        ·simp only [Act.put, z1, z2, z3, i64_w, i32_w]
         rfl
        refine take_ (i := 7) (N := some 24) (v := ?_) (a' := ?_) #[true, true, true, true, true, true, true, true, false, false] rfl rfl (take_ofW HT_.out HW_.out (by kernel_rfl)) (fun _ _ _ h => h) (Or.inl ⟨by rfl, ?_⟩) hHeld ?_ ?_
        rotate_left
        ·rintro w' ⟨s0, s1, s2, s3, s4, s5, s6, s7, s8, s9⟩
         go_simp
         with_reducible rfl
        rotate_left
        ·simp only [Act.put, z1, z2, z3, i64_w, i32_w]
         rfl
        refine one_ (i := 8) (N := some 25) #[true, true, true, true, true, true, true, true, true, false] rfl rfl (one_of HT_.out (by kernel_rfl)) (by decide) (fun K hK => ?_)
        refine goes_ Try.func62 (by kernel_rfl) rfl #[.agg #[.string ((rd_T67 l0 x5_1).f0), .int .i64 ((rd_T67 l0 x5_1).f1), .int .i64 ((rd_T67 l0 x5_1).f2), .int .i64 ((rd_T67 l0 x5_1).f3), .int .i64 ((rd_T67 l0 x5_1).f4)], .agg #[.string ((rd_T67 l1 x5_1).f0), .int .i64 ((rd_T67 l1 x5_1).f1), .int .i64 ((rd_T67 l1 x5_1).f2), .int .i64 ((rd_T67 l1 x5_1).f3), .int .i64 ((rd_T67 l1 x5_1).f4)]] (by rfl) rfl rfl (by (try simp only [z6, z7, z8]); first | done | rfl | (simp only [z4, z5]; rfl)) ?_
        with_reducible refine (laws_eqInstr.calls ((rd_T67 l0 x5_1).f0) ((rd_T67 l0 x5_1).f1) ((rd_T67 l0 x5_1).f2) ((rd_T67 l0 x5_1).f3) ((rd_T67 l0 x5_1).f4) ((rd_T67 l1 x5_1).f0) ((rd_T67 l1 x5_1).f1) ((rd_T67 l1 x5_1).f2) ((rd_T67 l1 x5_1).f3) ((rd_T67 l1 x5_1).f4) false _ A7.out).mono ?_
        rintro e w12 ⟨rfl, hb⟩
        refine ⟨_, rfl, ?_⟩
        have n0_ := zK (zL (by repeat (first | (with_reducible first | exact HB.out | apply zA | apply zB | apply zC) | exact HB.out)) hb)
        clear HB
        have HB := n0_
        clear n0_
        (try clear hb)
        (try clear hb2)
        (try clear hk)
        (try clear hi)
        refine hK.out _ _ ⟨(zt HB.out hw214_0 :), (zt HB.out hw214_1 :), (zt HB.out hw214_2 :), (zt HB.out hw214_3 :), (zt HB.out hw214_4 :), (zt HB.out hw215_0 :), (zt HB.out hw215_1 :), (zt HB.out hw215_2 :), (zt HB.out hw215_3 :), (zt HB.out hw215_4 :)⟩ (fun hHeld => ?_)
        clear hK K
        refine norm_ (a' := ?_) ?_ ?_
        rotate_left
        ·show Act.put _ (some 25) _ = _
         simp only [Act.put, z1, z2, z3, i64_w, i32_w]
         rfl
        refine pure_ (i := 9) (N := some 26) (v := ?_) (a' := ?_) #[true, true, true, true, true, true, true, true, true, true] rfl rfl (any_of HT_.out (by kernel_rfl)) (fun _ _ _ h => h) (Or.inl ⟨by rfl, ?_⟩) ?_ ?_
        rotate_left
        ·intro w'
         go_simp
         with_reducible rfl
        rotate_left
        ·simp only [Act.put, z1, z2, z3, i64_w, i32_w]
         rfl
        refine done_ (done_of HT_.out (by kernel_rfl)) ?_
        try go_wp2
        go_ret
        exact ⟨by first | rfl | (simp [errW_none, errW_some] <;> rfl) | (simp [*, errW_none, errW_some] <;> rfl), by repeat (first | (with_reducible first | exact HB.out | apply zA | apply zB | apply zC) | exact HB.out)⟩
      ·rw [if_neg c6] at H
       exact absurd H (by simp)
     ·rw [if_neg c5] at H
      exact absurd H (by simp)
    ·rw [if_neg c4] at H
     have c4b0 : decide (x5_1 < (l0.length : Int)) = false := decide_eq_false c4
     clear c4
     obtain rfl := Option.some.inj H
     go_wp2
     go_ret
     exact ⟨by first | rfl | (simp [errW_none, errW_some] <;> rfl) | (simp [*, errW_none, errW_some] <;> rfl), by repeat (first | (with_reducible first | exact HB.out | apply zA | apply zB | apply zC) | exact HB.out)⟩
 ·rw [if_neg c3] at H
  have c3b0 : ((l0.length : Int) == (l1.length : Int)) = false := beq_eq_false_iff_ne.mpr c3
  have c3b1 : ((l0.length : Int) != (l1.length : Int)) = true := bne_iff_ne.mpr c3
  have c3b2 : (l0.length == l1.length) = false := by first | simpa using c3 | (simp at c3 ⊢; omega)
  obtain rfl := Option.some.inj H
  go_enter Try.func18, Try.ntmps18
  go_wp2
  go_ret
  exact ⟨by first | rfl | (simp [errW_none, errW_some] <;> rfl) | (simp [*, errW_none, errW_some] <;> rfl), by repeat (first | (with_reducible first | exact HB.out | apply zA | apply zB | apply zC) | exact HB.out)⟩

/-! ### laws_markText: function 63 -/
def laws_markText.l0 : Nat → Int → ByteArray → Option (ByteArray)
 | 0, _, _ => none
 | k + 1, x0, x3 => if x0 > 0 then ((some (([(wrap64 (48 + (Int.tmod x0 10))) % 256] : List Int) : List Int)).bind fun y217 => (if (strOfNums y217).size + x3.size ≤ 9223372036854775807 then (laws_markText.l0 k (wrap64 (Int.tdiv x0 10)) ((strOfNums y217) ++ x3)) else (none))) else (if 1 + x3.size ≤ 9223372036854775807 then (some ((⟨#[109]⟩ : ByteArray) ++ x3)) else (none))
def laws_markText.f (k : Nat) (a0 : Int) : Option (ByteArray) := if a0 ≤ 0 then (some (⟨#[109, 48]⟩ : ByteArray)) else (laws_markText.l0 k a0 (⟨#[]⟩ : ByteArray))
theorem laws_markText.mono_l : ∀ k, (∀ y0 y1, LeO (laws_markText.l0 k y0 y1) (laws_markText.l0 (k + 1) y0 y1))
 | 0 => fun _ _ r h => by simp [laws_markText.l0] at h
 | k + 1 => by
  have ih0 := laws_markText.mono_l k
  ·intro y0 y1
   unfold laws_markText.l0
   repeat' first
   | (with_reducible exact ih0 _ _)
   | (with_reducible exact LeO.refl _)
   | (with_reducible exact LeO.none _)
   | (with_reducible refine LeO.ite ?_ ?_)
   | (with_reducible refine LeO.bind ?_ (fun _ => ?_))
   | exact ih0 _ _
   | exact LeO.none _
   | refine LeO.ite ?_ ?_
   | refine LeO.bind ?_ (fun _ => ?_)
theorem laws_markText.mono : ∀ a0 k, LeO (laws_markText.f k a0) (laws_markText.f (k + 1) a0) := by
 intro a0 k
 have ih0 := laws_markText.mono_l k
 unfold laws_markText.f
 repeat' first
   | (with_reducible exact ih0 _ _)
   | (with_reducible exact LeO.refl _)
   | (with_reducible exact LeO.none _)
   | (with_reducible refine LeO.ite ?_ ?_)
   | (with_reducible refine LeO.bind ?_ (fun _ => ?_))
   | exact ih0 _ _
   | exact LeO.none _
   | refine LeO.ite ?_ ?_
   | refine LeO.bind ?_ (fun _ => ?_)
set_option maxHeartbeats 8000000 in
set_option maxRecDepth 100000 in
theorem laws_markText.calls (k : Nat) (a0 : Int) (r : ByteArray) (w : World) (h : laws_markText.f k a0 = some r) :
  Calls Try.prog 63 #[.int .i64 a0] w fun e w' => e = .returned (.string r) ∧ Below w.heap.size w w' := by
 have HB := zK (Below.refl w.heap.size w)
 have H : (if a0 ≤ 0 then (some (⟨#[109, 48]⟩ : ByteArray)) else (laws_markText.l0 k a0 (⟨#[]⟩ : ByteArray))) = some r := h
 clear h
 by_cases c2 : a0 ≤ 0
 ·rw [if_pos c2] at H
  have c2b0 : decide (a0 ≤ 0) = true := decide_eq_true c2
  clear c2
  obtain rfl := Option.some.inj H
  go_enter Try.func63, Try.ntmps63
  go_wp2
  go_ret
  exact ⟨by first | rfl | (simp [errW_none, errW_some] <;> rfl) | (simp [*, errW_none, errW_some] <;> rfl), by repeat (first | (with_reducible first | exact HB.out | apply zA | apply zB | apply zC) | exact HB.out)⟩
 ·rw [if_neg c2] at H
  have c2b0 : decide (a0 ≤ 0) = false := decide_eq_false c2
  clear c2
  have H' := zK H
  clear H
  go_enter Try.func63, Try.ntmps63
  go_wp2
  go_loopg [0, 3] k (fun kq v0 v3 w' => ∃ (x0_1 : Int) (x3_1 : ByteArray), v0 = .int .i64 x0_1 ∧ v3 = .string x3_1 ∧ Aside0 (laws_markText.l0 kq x0_1 x3_1 = some r) ∧ Aside0 (kq ≤ k) ∧ Aside0 (Below w.heap.size w w'))
  case atStart => exact ⟨(a0), ((⟨#[]⟩ : ByteArray)), (by first | rfl | (simp; done) | (simp [*]; done)), (by first | rfl | (simp; done) | (simp [*]; done)), H', ⟨Nat.le_refl _⟩, ⟨by repeat (first | (with_reducible first | exact HB.out | apply zA | apply zB | apply zC) | exact HB.out)⟩⟩
  case round =>
   clear H'
   try clear c2
   try clear c2b0
   try clear p2
   obtain ⟨x0_1, x3_1, rfl, rfl, HA, HK1, HB⟩ := hrel
   cases gk with
   | zero => exact absurd HA.out (by simp [laws_markText.l0])
   | succ k1 =>
    have H := HA.out
    clear HA
    simp only [laws_markText.l0] at H
    by_cases c3 : x0_1 > 0
    ·rw [if_pos c3] at H
     have c3b0 : decide (0 < x0_1) = true := decide_eq_true c3
     clear c3
     obtain ⟨y217, hy217⟩ : ∃ y_ : List Int, y_ = (([(wrap64 (48 + (Int.tmod x0_1 10))) % 256] : List Int)) := ⟨_, rfl⟩
     replace H : (if (strOfNums y217).size + x3_1.size ≤ 9223372036854775807 then (laws_markText.l0 k1 (wrap64 (Int.tdiv x0_1 10)) ((strOfNums y217) ++ x3_1)) else (none)) = some r := by first | (rw [hy217]; with_reducible exact H) | (have H2_ := (Option.bind_some _ _).symm.trans H; rw [hy217]; with_reducible exact H2_) | (have H2_ := (Option.bind_some _ _).symm.trans H; with_reducible exact H2_) | with_reducible exact H | (rw [hy217]; exact H) | exact H
     have Ny217 := zK hy217
     clear hy217
     by_cases c4 : (strOfNums y217).size + x3_1.size ≤ 9223372036854775807
     ·rw [if_pos c4] at H
      have c4b0 := eq_true c4
      have c4b1 : decide ((strOfNums y217).size + x3_1.size ≤ 9223372036854775807) = true := decide_eq_true c4
      try have c4b2 : (9223372036854775807 < (strOfNums y217).size + x3_1.size) = False := eq_false (Nat.not_lt.2 c4)
      have H' := zK H
      clear H
      go_wp2_with (first | ((with_reducible refine gate_dst (N := 12) rfl ?_); refine Kd.R_lit (Kd.int .u8) _ 5 ?hg (N := 12) ?hd (xs := ([(wrap64 (48 + (Int.tmod x0_1 10))) % 256] : List Int)) (inner := [.int .u8 ((wrap64 (48 + (Int.tmod x0_1 10))) % 256)]) (ok := fun _ => True) (okp := fun _ => True) ?hr ?hp (fun _ hk => hk) trivial (Below.refl _ _) (Nat.le_refl _) (by simp) ?_; (case hd => rfl); (case hg => rfl); (case hr => first | (go_simp; done) | (go_simp; rfl)); (case hp => exact (Reps.one (show Kd.M (Kd.int .u8) _ _ _ ((wrap64 (48 + (Int.tmod x0_1 10))) % 256) [.int .u8 ((wrap64 (48 + (Int.tmod x0_1 10))) % 256)] from rfl) (Reps.none _ _))); intro v218 w5 ho6 hb hg_ hnew_; clear hg_ hnew_; (first | rw [← Ny217.out] at ho6 | (simp only [Int.reduceToNat] at ho6; rw [← Ny217.out] at ho6)); have n0_ := zK (Kd.R_lower ho6 (zN (by repeat (first | (with_reducible first | exact HB.out | apply zA | apply zB | apply zC) | exact HB.out)))); have n1_ := zK (zL (by repeat (first | (with_reducible first | exact HB.out | apply zA | apply zB | apply zC) | exact HB.out)) hb); clear HB; have HO219 := n0_; have HB := n1_; clear n0_ n1_; clear hb ho6; have hcv7 := own_string (P := Try.prog) Try.underlying110 Try.underlying5 Try.underlying9 (Kd.own_of_R HO219.out)))
      go_roundg k1
      case measure => have := HK1.out; omega
      case rel => exact ⟨(wrap64 (Int.tdiv x0_1 10)), ((strOfNums y217) ++ x3_1), (by first | rfl | (simp; done) | (simp [*]; done)), (by first | rfl | (simp; done) | (simp [*]; done)), H', ⟨by have := HK1.out; omega⟩, ⟨by repeat (first | (with_reducible first | exact HB.out | apply zA | apply zB | apply zC) | exact HB.out)⟩⟩
     ·rw [if_neg c4] at H
      exact absurd H (by simp)
    ·rw [if_neg c3] at H
     have c3b0 : decide (0 < x0_1) = false := decide_eq_false c3
     clear c3
     by_cases c8 : 1 + x3_1.size ≤ 9223372036854775807
     ·rw [if_pos c8] at H
      have c8b0 := eq_true c8
      have c8b1 : decide (1 + x3_1.size ≤ 9223372036854775807) = true := decide_eq_true c8
      try have c8b2 : (9223372036854775807 < 1 + x3_1.size) = False := eq_false (Nat.not_lt.2 c8)
      obtain rfl := Option.some.inj H
      go_wp2
      go_ret
      exact ⟨by first | rfl | (simp [errW_none, errW_some] <;> rfl) | (simp [*, errW_none, errW_some] <;> rfl), by repeat (first | (with_reducible first | exact HB.out | apply zA | apply zB | apply zC) | exact HB.out)⟩
     ·rw [if_neg c8] at H
      exact absurd H (by simp)

/-! ### laws_markInstrS: function 19 -/
def laws_markInstrS.l0 : Nat → List (S67) → Int → Int → Option (Int × (List (S67)))
 | 0, _, _, _ => none
 | k + 1, x0, x1, x5 => if x5 < (x0.length : Int) then ((laws_markText.f k x1).bind fun t220 => (if 0 ≤ x5 then ((some (x0.set (x5 : Int).toNat (⟨t220, (rd_T67 x0 x5).f1, (rd_T67 x0 x5).f2, (rd_T67 x0 x5).f3, (rd_T67 x0 x5).f4⟩ : S67) : List (S67))).bind fun y221 => ((some (y221.set (x5 : Int).toNat (⟨(rd_T67 y221 x5).f0, wrap64 (x1 + 1), (rd_T67 y221 x5).f2, (rd_T67 y221 x5).f3, (rd_T67 y221 x5).f4⟩ : S67) : List (S67))).bind fun y222 => ((some (y222.set (x5 : Int).toNat (⟨(rd_T67 y222 x5).f0, (rd_T67 y222 x5).f1, wrap64 ((wrap64 (x1 + 1)) + 1), (rd_T67 y222 x5).f3, (rd_T67 y222 x5).f4⟩ : S67) : List (S67))).bind fun y223 => ((some (y223.set (x5 : Int).toNat (⟨(rd_T67 y223 x5).f0, (rd_T67 y223 x5).f1, (rd_T67 y223 x5).f2, wrap64 ((wrap64 ((wrap64 (x1 + 1)) + 1)) + 1), (rd_T67 y223 x5).f4⟩ : S67) : List (S67))).bind fun y224 => (laws_markInstrS.l0 k (y224.set (x5 : Int).toNat (⟨(rd_T67 y224 x5).f0, (rd_T67 y224 x5).f1, (rd_T67 y224 x5).f2, (rd_T67 y224 x5).f3, wrap64 ((wrap64 ((wrap64 ((wrap64 (x1 + 1)) + 1)) + 1)) + 1)⟩ : S67)) (wrap64 ((wrap64 ((wrap64 ((wrap64 ((wrap64 (x1 + 1)) + 1)) + 1)) + 1)) + 1)) (wrap64 (x5 + 1))))))) else (none))) else (some (x1, x0))
def laws_markInstrS.f (k : Nat) (l0 : List (S67)) (a1 : Int) : Option (Int × (List (S67))) := laws_markInstrS.l0 k l0 a1 0
theorem laws_markInstrS.mono_l : ∀ k, (∀ y0 y1 y2, LeO (laws_markInstrS.l0 k y0 y1 y2) (laws_markInstrS.l0 (k + 1) y0 y1 y2))
 | 0 => fun _ _ _ r h => by simp [laws_markInstrS.l0] at h
 | k + 1 => by
  have ih0 := laws_markInstrS.mono_l k
  ·intro y0 y1 y2
   unfold laws_markInstrS.l0
   repeat' first
   | (with_reducible exact ih0 _ _ _)
   | (with_reducible exact laws_markText.mono _ _)
   | (with_reducible exact LeO.refl _)
   | (with_reducible exact LeO.none _)
   | (with_reducible refine LeO.ite ?_ ?_)
   | (with_reducible refine LeO.bind ?_ (fun _ => ?_))
   | exact ih0 _ _ _
   | exact laws_markText.mono _ _
   | exact LeO.none _
   | refine LeO.ite ?_ ?_
   | refine LeO.bind ?_ (fun _ => ?_)
theorem laws_markInstrS.mono : ∀ a0 a1 k, LeO (laws_markInstrS.f k a0 a1) (laws_markInstrS.f (k + 1) a0 a1) := by
 intro a0 a1 k
 have ih0 := laws_markInstrS.mono_l k
 unfold laws_markInstrS.f
 repeat' first
   | (with_reducible exact ih0 _ _ _)
   | (with_reducible exact laws_markText.mono _ _)
   | (with_reducible exact LeO.refl _)
   | (with_reducible exact LeO.none _)
   | (with_reducible refine LeO.ite ?_ ?_)
   | (with_reducible refine LeO.bind ?_ (fun _ => ?_))
   | exact ih0 _ _ _
   | exact laws_markText.mono _ _
   | exact LeO.none _
   | refine LeO.ite ?_ ?_
   | refine LeO.bind ?_ (fun _ => ?_)
set_option maxHeartbeats 8000000 in
set_option maxRecDepth 100000 in
theorem laws_markInstrS.calls (k : Nat) (P0_ : Nat → Prop) (u9000_ : Value) (l0 : List (S67)) (a1 : Int) (r1 : Int) (r2 : List (S67)) (w0 w : World) (hB : Below w0.heap.size w0 w) (ho0 : Kd.R k67 67 w w0.heap.size P0_ u9000_ l0) (h : laws_markInstrS.f k l0 a1 = some (r1, r2)) :
  Calls Try.prog 19 #[u9000_, .int .i64 a1] w fun e w' => e = .returned (.int .i64 r1) ∧ Kd.R k67 67 w' w0.heap.size (fun k_ => (P0_ k_ ∨ w.heap.size ≤ k_)) u9000_ r2 ∧ Below w0.heap.size w0 w' ∧ Kept w w' (fun k_ => P0_ k_) := by
 have HO0 := zK (show Kd.R k67 67 w w0.heap.size (fun k_ => (P0_ k_ ∨ w.heap.size ≤ k_)) u9000_ l0 from Kd.R_mono ho0 (fun k_ hk => (.inl hk)))
 have HK := zK (Kept.refl w (fun k_ => P0_ k_))
 have HW0 := zK hB.size
 have HB := zK hB
 clear hB
 have H : (laws_markInstrS.l0 k l0 a1 0) = some (r1, r2) := h
 clear h
 have H' := zK H
 clear H
 go_enter Try.func19, Try.ntmps19
 go_wp2
 go_loopg [1, 5] k (fun kq v1 v5 w' => ∃ (x0_1 : List (S67)) (x1_1 : Int) (x5_1 : Int), v1 = .int .i64 x1_1 ∧ v5 = .int .i64 x5_1 ∧ Aside0 (laws_markInstrS.l0 kq x0_1 x1_1 x5_1 = some (r1, r2)) ∧ Aside0 (kq ≤ k) ∧ Aside0 (Kd.R k67 67 w' w0.heap.size (fun k_ => (P0_ k_ ∨ w.heap.size ≤ k_)) u9000_ x0_1) ∧ Aside0 (Kept w w' (fun k_ => P0_ k_)) ∧ Aside0 (Below w0.heap.size w0 w'))
 case atStart => exact ⟨(l0), (a1), (0), (by first | rfl | (simp; done) | (simp [*]; done)), (by first | rfl | (simp; done) | (simp [*]; done)), H', ⟨Nat.le_refl _⟩, ⟨by (with_reducible repeat (first | apply Kd.R_alloc | apply Kd.R_drewN | apply Kd.R_drew)); exact HO0.out⟩, ⟨by repeat (first | (with_reducible first | exact HK.out | apply Kept.alloc | apply Kept.drewN | apply Kept.drew) | exact HK.out)⟩, ⟨by repeat (first | (with_reducible first | exact HB.out | apply zA | apply zB | apply zC) | exact HB.out)⟩⟩
 case round =>
  clear H'
  try clear c1
  try clear p2
  obtain ⟨x0_1, x1_1, x5_1, rfl, rfl, HA, HK1, HO_0, HK, HB⟩ := hrel
  cases gk with
  | zero => exact absurd HA.out (by simp [laws_markInstrS.l0])
  | succ k1 =>
   have H := HA.out
   clear HA
   simp only [laws_markInstrS.l0] at H
   by_cases c3 : x5_1 < (x0_1.length : Int)
   ·rw [if_pos c3] at H
    have c3b0 : decide (x5_1 < (x0_1.length : Int)) = true := decide_eq_true c3
    clear c3
    replace H := Option.bind_eq_some_iff.mp H
    obtain ⟨t220, A40, H⟩ := H
    replace H : (if 0 ≤ x5_1 then ((some (x0_1.set (x5_1 : Int).toNat (⟨t220, (rd_T67 x0_1 x5_1).f1, (rd_T67 x0_1 x5_1).f2, (rd_T67 x0_1 x5_1).f3, (rd_T67 x0_1 x5_1).f4⟩ : S67) : List (S67))).bind fun y221 => ((some (y221.set (x5_1 : Int).toNat (⟨(rd_T67 y221 x5_1).f0, wrap64 (x1_1 + 1), (rd_T67 y221 x5_1).f2, (rd_T67 y221 x5_1).f3, (rd_T67 y221 x5_1).f4⟩ : S67) : List (S67))).bind fun y222 => ((some (y222.set (x5_1 : Int).toNat (⟨(rd_T67 y222 x5_1).f0, (rd_T67 y222 x5_1).f1, wrap64 ((wrap64 (x1_1 + 1)) + 1), (rd_T67 y222 x5_1).f3, (rd_T67 y222 x5_1).f4⟩ : S67) : List (S67))).bind fun y223 => ((some (y223.set (x5_1 : Int).toNat (⟨(rd_T67 y223 x5_1).f0, (rd_T67 y223 x5_1).f1, (rd_T67 y223 x5_1).f2, wrap64 ((wrap64 ((wrap64 (x1_1 + 1)) + 1)) + 1), (rd_T67 y223 x5_1).f4⟩ : S67) : List (S67))).bind fun y224 => (laws_markInstrS.l0 k1 (y224.set (x5_1 : Int).toNat (⟨(rd_T67 y224 x5_1).f0, (rd_T67 y224 x5_1).f1, (rd_T67 y224 x5_1).f2, (rd_T67 y224 x5_1).f3, wrap64 ((wrap64 ((wrap64 ((wrap64 (x1_1 + 1)) + 1)) + 1)) + 1)⟩ : S67)) (wrap64 ((wrap64 ((wrap64 ((wrap64 ((wrap64 (x1_1 + 1)) + 1)) + 1)) + 1)) + 1)) (wrap64 (x5_1 + 1))))))) else (none)) = some (r1, r2) := H
    have A4 := zK A40
    clear A40
    by_cases c5 : 0 ≤ x5_1
    ·rw [if_pos c5] at H
     have c5b0 : decide (0 ≤ x5_1) = true := decide_eq_true c5
     clear c5
     obtain ⟨y221, hy221⟩ : ∃ y_ : List (S67), y_ = (x0_1.set (x5_1 : Int).toNat (⟨t220, (rd_T67 x0_1 x5_1).f1, (rd_T67 x0_1 x5_1).f2, (rd_T67 x0_1 x5_1).f3, (rd_T67 x0_1 x5_1).f4⟩ : S67)) := ⟨_, rfl⟩
     replace H : ((some (y221.set (x5_1 : Int).toNat (⟨(rd_T67 y221 x5_1).f0, wrap64 (x1_1 + 1), (rd_T67 y221 x5_1).f2, (rd_T67 y221 x5_1).f3, (rd_T67 y221 x5_1).f4⟩ : S67) : List (S67))).bind fun y222 => ((some (y222.set (x5_1 : Int).toNat (⟨(rd_T67 y222 x5_1).f0, (rd_T67 y222 x5_1).f1, wrap64 ((wrap64 (x1_1 + 1)) + 1), (rd_T67 y222 x5_1).f3, (rd_T67 y222 x5_1).f4⟩ : S67) : List (S67))).bind fun y223 => ((some (y223.set (x5_1 : Int).toNat (⟨(rd_T67 y223 x5_1).f0, (rd_T67 y223 x5_1).f1, (rd_T67 y223 x5_1).f2, wrap64 ((wrap64 ((wrap64 (x1_1 + 1)) + 1)) + 1), (rd_T67 y223 x5_1).f4⟩ : S67) : List (S67))).bind fun y224 => (laws_markInstrS.l0 k1 (y224.set (x5_1 : Int).toNat (⟨(rd_T67 y224 x5_1).f0, (rd_T67 y224 x5_1).f1, (rd_T67 y224 x5_1).f2, (rd_T67 y224 x5_1).f3, wrap64 ((wrap64 ((wrap64 ((wrap64 (x1_1 + 1)) + 1)) + 1)) + 1)⟩ : S67)) (wrap64 ((wrap64 ((wrap64 ((wrap64 ((wrap64 (x1_1 + 1)) + 1)) + 1)) + 1)) + 1)) (wrap64 (x5_1 + 1)))))) = some (r1, r2) := by first | (rw [hy221]; with_reducible exact H) | (have H2_ := (Option.bind_some _ _).symm.trans H; rw [hy221]; with_reducible exact H2_) | (have H2_ := (Option.bind_some _ _).symm.trans H; with_reducible exact H2_) | with_reducible exact H | (rw [hy221]; exact H) | exact H
     have Ny221 := zK hy221
     clear hy221
     obtain ⟨y222, hy222⟩ : ∃ y_ : List (S67), y_ = (y221.set (x5_1 : Int).toNat (⟨(rd_T67 y221 x5_1).f0, wrap64 (x1_1 + 1), (rd_T67 y221 x5_1).f2, (rd_T67 y221 x5_1).f3, (rd_T67 y221 x5_1).f4⟩ : S67)) := ⟨_, rfl⟩
     replace H : ((some (y222.set (x5_1 : Int).toNat (⟨(rd_T67 y222 x5_1).f0, (rd_T67 y222 x5_1).f1, wrap64 ((wrap64 (x1_1 + 1)) + 1), (rd_T67 y222 x5_1).f3, (rd_T67 y222 x5_1).f4⟩ : S67) : List (S67))).bind fun y223 => ((some (y223.set (x5_1 : Int).toNat (⟨(rd_T67 y223 x5_1).f0, (rd_T67 y223 x5_1).f1, (rd_T67 y223 x5_1).f2, wrap64 ((wrap64 ((wrap64 (x1_1 + 1)) + 1)) + 1), (rd_T67 y223 x5_1).f4⟩ : S67) : List (S67))).bind fun y224 => (laws_markInstrS.l0 k1 (y224.set (x5_1 : Int).toNat (⟨(rd_T67 y224 x5_1).f0, (rd_T67 y224 x5_1).f1, (rd_T67 y224 x5_1).f2, (rd_T67 y224 x5_1).f3, wrap64 ((wrap64 ((wrap64 ((wrap64 (x1_1 + 1)) + 1)) + 1)) + 1)⟩ : S67)) (wrap64 ((wrap64 ((wrap64 ((wrap64 ((wrap64 (x1_1 + 1)) + 1)) + 1)) + 1)) + 1)) (wrap64 (x5_1 + 1))))) = some (r1, r2) := by first | (rw [hy222]; with_reducible exact H) | (have H2_ := (Option.bind_some _ _).symm.trans H; rw [hy222]; with_reducible exact H2_) | (have H2_ := (Option.bind_some _ _).symm.trans H; with_reducible exact H2_) | with_reducible exact H | (rw [hy222]; exact H) | exact H
     have Ny222 := zK hy222
     clear hy222
     obtain ⟨y223, hy223⟩ : ∃ y_ : List (S67), y_ = (y222.set (x5_1 : Int).toNat (⟨(rd_T67 y222 x5_1).f0, (rd_T67 y222 x5_1).f1, wrap64 ((wrap64 (x1_1 + 1)) + 1), (rd_T67 y222 x5_1).f3, (rd_T67 y222 x5_1).f4⟩ : S67)) := ⟨_, rfl⟩
     replace H : ((some (y223.set (x5_1 : Int).toNat (⟨(rd_T67 y223 x5_1).f0, (rd_T67 y223 x5_1).f1, (rd_T67 y223 x5_1).f2, wrap64 ((wrap64 ((wrap64 (x1_1 + 1)) + 1)) + 1), (rd_T67 y223 x5_1).f4⟩ : S67) : List (S67))).bind fun y224 => (laws_markInstrS.l0 k1 (y224.set (x5_1 : Int).toNat (⟨(rd_T67 y224 x5_1).f0, (rd_T67 y224 x5_1).f1, (rd_T67 y224 x5_1).f2, (rd_T67 y224 x5_1).f3, wrap64 ((wrap64 ((wrap64 ((wrap64 (x1_1 + 1)) + 1)) + 1)) + 1)⟩ : S67)) (wrap64 ((wrap64 ((wrap64 ((wrap64 ((wrap64 (x1_1 + 1)) + 1)) + 1)) + 1)) + 1)) (wrap64 (x5_1 + 1)))) = some (r1, r2) := by first | (rw [hy223]; with_reducible exact H) | (have H2_ := (Option.bind_some _ _).symm.trans H; rw [hy223]; with_reducible exact H2_) | (have H2_ := (Option.bind_some _ _).symm.trans H; with_reducible exact H2_) | with_reducible exact H | (rw [hy223]; exact H) | exact H
     have Ny223 := zK hy223
     clear hy223
     obtain ⟨y224, hy224⟩ : ∃ y_ : List (S67), y_ = (y223.set (x5_1 : Int).toNat (⟨(rd_T67 y223 x5_1).f0, (rd_T67 y223 x5_1).f1, (rd_T67 y223 x5_1).f2, wrap64 ((wrap64 ((wrap64 (x1_1 + 1)) + 1)) + 1), (rd_T67 y223 x5_1).f4⟩ : S67)) := ⟨_, rfl⟩
     replace H : (laws_markInstrS.l0 k1 (y224.set (x5_1 : Int).toNat (⟨(rd_T67 y224 x5_1).f0, (rd_T67 y224 x5_1).f1, (rd_T67 y224 x5_1).f2, (rd_T67 y224 x5_1).f3, wrap64 ((wrap64 ((wrap64 ((wrap64 (x1_1 + 1)) + 1)) + 1)) + 1)⟩ : S67)) (wrap64 ((wrap64 ((wrap64 ((wrap64 ((wrap64 (x1_1 + 1)) + 1)) + 1)) + 1)) + 1)) (wrap64 (x5_1 + 1))) = some (r1, r2) := by first | (rw [hy224]; with_reducible exact H) | (have H2_ := (Option.bind_some _ _).symm.trans H; rw [hy224]; with_reducible exact H2_) | (have H2_ := (Option.bind_some _ _).symm.trans H; with_reducible exact H2_) | with_reducible exact H | (rw [hy224]; exact H) | exact H
     have Ny224 := zK hy224
     clear hy224
     obtain ⟨y225, hy225⟩ : ∃ y_ : List (S67), y_ = (y224.set (x5_1 : Int).toNat (⟨(rd_T67 y224 x5_1).f0, (rd_T67 y224 x5_1).f1, (rd_T67 y224 x5_1).f2, (rd_T67 y224 x5_1).f3, wrap64 ((wrap64 ((wrap64 ((wrap64 (x1_1 + 1)) + 1)) + 1)) + 1)⟩ : S67)) := ⟨_, rfl⟩
     replace H : (laws_markInstrS.l0 k1 y225 (wrap64 ((wrap64 ((wrap64 ((wrap64 ((wrap64 (x1_1 + 1)) + 1)) + 1)) + 1)) + 1)) (wrap64 (x5_1 + 1))) = some (r1, r2) := by first | (rw [hy225]; with_reducible exact H) | (have H2_ := (Option.bind_some _ _).symm.trans H; rw [hy225]; with_reducible exact H2_) | (have H2_ := (Option.bind_some _ _).symm.trans H; with_reducible exact H2_) | with_reducible exact H | (rw [hy225]; exact H) | exact H
     have Ny225 := zK hy225
     clear hy225
     have H' := zK H
     clear H
     obtain ⟨Ao11, co11, eo11⟩ := Kd.R_slice HO_0.out
     subst eo11
     go_wp2_with (first | ((with_reducible refine gate_callee (f := 63) rfl ?_); refine goesL_ (some 15) rfl rfl Try.func63 (by kernel_rfl) rfl #[.int .i64 x1_1] rfl (by (try simp only [z6, z7, z8]); first | done | rfl | (simp only [z4, z5]; rfl)) ?_; (with_reducible refine (laws_markText.calls k1 x1_1 t220 _ A4.out).mono ?_); rintro e w12 ⟨rfl, hb⟩; refine ⟨_, rfl, ?_⟩; have n0_ := zK (Kd.R_below (by (with_reducible repeat (first | apply Kd.R_alloc | apply Kd.R_drewN | apply Kd.R_drew)); exact HO_0.out) hb); have n1_ := zK (Kept.below (S := (fun k_ => P0_ k_)) (by repeat (first | (with_reducible first | exact HK.out | apply Kept.alloc | apply Kept.drewN | apply Kept.drew) | exact HK.out)) hb); have n2_ := zK (zL (by repeat (first | (with_reducible first | exact HB.out | apply zA | apply zB | apply zC) | exact HB.out)) hb); clear HO_0; clear HK; clear HB; have HO_0 := n0_; have HK := n1_; have HB := n2_; clear n0_ n1_ n2_; (try clear hb); (try clear hb2); (try clear hk); (try clear hi); have p6 : 0 ≤ (x5_1 : Int) := zo; have q6 : (x5_1 : Int) < ((x0_1.length : Int) : Int) := zo; obtain ⟨go6, co6, eo6, gb6, gl6, cl6, HG6⟩ := Kd.R_form HO_0.out (by omega); (first | cases eo6 | (injection eo6 with ea_ en_ ec_; (first | subst ea_ | (injection ea_ with ea_; subst ea_)); subst ec_; clear en_)); have GB6 := zK gb6; have GG6 := zK HG6; clear gb6 gl6 HG6; have HMgo6 := zK (show (P0_ go6 ∨ w.heap.size ≤ go6) from (HO_0.out.1 _ rfl)); obtain ⟨ce6, hcl6, hM6, hcc6, hfr6⟩ := Kd.R_elem HO_0.out z67 (x5_1 : Int) p6 q6; obtain rfl := k67_openM hM6; have hx6_0 : w12.cell? ⟨go6, (x5_1 : Int).toNat * 5, none⟩ = some (.string ((rd_T67 x0_1 x5_1).f0)) := hcc6 0 _ rfl; have hx6_1 : w12.cell? ⟨go6, (x5_1 : Int).toNat * 5 + 1, none⟩ = some (.int .i64 ((rd_T67 x0_1 x5_1).f1)) := hcc6 1 _ rfl; have hx6_2 : w12.cell? ⟨go6, (x5_1 : Int).toNat * 5 + 2, none⟩ = some (.int .i64 ((rd_T67 x0_1 x5_1).f2)) := hcc6 2 _ rfl; have hx6_3 : w12.cell? ⟨go6, (x5_1 : Int).toNat * 5 + 3, none⟩ = some (.int .i64 ((rd_T67 x0_1 x5_1).f3)) := hcc6 3 _ rfl; have hx6_4 : w12.cell? ⟨go6, (x5_1 : Int).toNat * 5 + 4, none⟩ = some (.int .i64 ((rd_T67 x0_1 x5_1).f4)) := hcc6 4 _ rfl; have hf6_0 : w12.frozen? ⟨go6, (x5_1 : Int).toNat * 5, none⟩ = false := hfr6 0; have hf6_1 : w12.frozen? ⟨go6, (x5_1 : Int).toNat * 5 + 1, none⟩ = false := hfr6 1; have hf6_2 : w12.frozen? ⟨go6, (x5_1 : Int).toNat * 5 + 2, none⟩ = false := hfr6 2; have hf6_3 : w12.frozen? ⟨go6, (x5_1 : Int).toNat * 5 + 3, none⟩ = false := hfr6 3; have hf6_4 : w12.frozen? ⟨go6, (x5_1 : Int).toNat * 5 + 4, none⟩ = false := hfr6 4; clear hcl6 hcc6 hfr6 hM6; replace p6 := eq_true p6; replace q6 := eq_true q6; have HX13 := zK (show Kd.R k67 67 w12 w0.heap.size (fun k_ => (P0_ k_ ∨ w.heap.size ≤ k_)) (.slice (some ⟨go6, 0, none⟩) x0_1.length co11) x0_1 from (by (with_reducible repeat (first | apply Kd.R_alloc | apply Kd.R_drewN | apply Kd.R_drew)); exact HO_0.out)); obtain ⟨ce13, hcl13, hM13, hcc13, hfr13⟩ := Kd.R_elem HX13.out z67 (x5_1 : Int) (zo) (by have h_ : (x5_1 : Int) < ((x0_1.length : Int) : Int) := zo; first | exact h_ | (have e_ := (Kd.R_reads' HO_0.out).1; omega) | simpa using h_); obtain rfl := k67_openM hM13; have HP13 := Kd.R_seg HX13.out (x5_1 : Int) (zo) (by have h_ : (x5_1 : Int) < ((x0_1.length : Int) : Int) := zo; first | exact h_ | (have e_ := (Kd.R_reads' HO_0.out).1; omega) | simpa using h_) (seg := [.string t220]) (j := 0) hcl13 hcc13 (show 1 ≤ 5 from by decide) (x' := (⟨t220, (rd_T67 x0_1 x5_1).f1, (rd_T67 x0_1 x5_1).f2, (rd_T67 x0_1 x5_1).f3, (rd_T67 x0_1 x5_1).f4⟩ : S67)) (k67_mkM _ _ _ (⟨t220, (rd_T67 x0_1 x5_1).f1, (rd_T67 x0_1 x5_1).f2, (rd_T67 x0_1 x5_1).f3, (rd_T67 x0_1 x5_1).f4⟩ : S67) ) (fun _ hk => hk); have hx13_0 := hcc13 0 _ rfl; (try simp only [show (k67).sz = 5 from rfl, Nat.mul_one, Nat.add_zero] at hx13_0); have hf13_0 := hfr13 0; (try simp only [show (k67).sz = 5 from rfl, Nat.mul_one, Nat.add_zero] at hf13_0); clear hcl13 hcc13 hfr13 hM13) | ((with_reducible refine gate_store (t := 9) (p := 17) rfl ?_); refine store_event (t := 9) (p := 17) (v := ?vo_w14) (w1 := (w12.setCell ⟨go6, (x5_1 : Int).toNat * 5, none⟩ (.string t220))) ?hg ?ho ?hn ?hr ?_; (case ho => rfl); (case hg => rfl); (case hn => rfl); (case hr => first | (go_simp; done) | (go_simp; rfl)); intro w14 hw; have hg : w12.grownBy w14 (some go6) := (by rw [hw]; exact HP13.2); have hp_ : Kd.R k67 67 w14 w0.heap.size (fun k_ => (P0_ k_ ∨ w.heap.size ≤ k_)) (.slice (some ⟨go6, 0, none⟩) x0_1.length co11) y221 := (by rw [hw, Ny221.out]; exact HP13.1); clear HP13; have n0_ := zK (hp_); have n1_ := zK ((by rw [hw]; exact zD (HB.out) GB6.out : Below w0.heap.size w0 w14)); have n2_ := zK (Kept.of_grown (S := (fun k_ => P0_ k_)) hg (by repeat (first | (with_reducible first | exact HK.out | apply Kept.alloc | apply Kept.drewN | apply Kept.drew) | exact HK.out)) (fun k_ e_ => (HO_0.out.1 k_ e_))); clear HO_0; clear HB; clear HK; have HO_0 := n0_; have HB := n1_; have HK := n2_; clear n0_ n1_ n2_; clear hg hw hp_; have p7 : 0 ≤ (x5_1 : Int) := zo; have q7 : (x5_1 : Int) < ((x0_1.length : Int) : Int) := zo; obtain ⟨ce7, hcl7, hM7, hcc7, hfr7⟩ := Kd.R_elem HO_0.out z67 (x5_1 : Int) p7 q7; obtain rfl := k67_openM hM7; have hx7_0 : w14.cell? ⟨go6, (x5_1 : Int).toNat * 5, none⟩ = some (.string ((rd_T67 y221 x5_1).f0)) := hcc7 0 _ rfl; have hx7_1 : w14.cell? ⟨go6, (x5_1 : Int).toNat * 5 + 1, none⟩ = some (.int .i64 ((rd_T67 y221 x5_1).f1)) := hcc7 1 _ rfl; have hx7_2 : w14.cell? ⟨go6, (x5_1 : Int).toNat * 5 + 2, none⟩ = some (.int .i64 ((rd_T67 y221 x5_1).f2)) := hcc7 2 _ rfl; have hx7_3 : w14.cell? ⟨go6, (x5_1 : Int).toNat * 5 + 3, none⟩ = some (.int .i64 ((rd_T67 y221 x5_1).f3)) := hcc7 3 _ rfl; have hx7_4 : w14.cell? ⟨go6, (x5_1 : Int).toNat * 5 + 4, none⟩ = some (.int .i64 ((rd_T67 y221 x5_1).f4)) := hcc7 4 _ rfl; have hf7_0 : w14.frozen? ⟨go6, (x5_1 : Int).toNat * 5, none⟩ = false := hfr7 0; have hf7_1 : w14.frozen? ⟨go6, (x5_1 : Int).toNat * 5 + 1, none⟩ = false := hfr7 1; have hf7_2 : w14.frozen? ⟨go6, (x5_1 : Int).toNat * 5 + 2, none⟩ = false := hfr7 2; have hf7_3 : w14.frozen? ⟨go6, (x5_1 : Int).toNat * 5 + 3, none⟩ = false := hfr7 3; have hf7_4 : w14.frozen? ⟨go6, (x5_1 : Int).toNat * 5 + 4, none⟩ = false := hfr7 4; clear hcl7 hcc7 hfr7 hM7; replace p7 := eq_true p7; replace q7 := eq_true q7; have HX15 := zK (show Kd.R k67 67 w14 w0.heap.size (fun k_ => (P0_ k_ ∨ w.heap.size ≤ k_)) (.slice (some ⟨go6, 0, none⟩) x0_1.length co11) y221 from (by (with_reducible repeat (first | apply Kd.R_alloc | apply Kd.R_drewN | apply Kd.R_drew)); exact HO_0.out)); obtain ⟨ce15, hcl15, hM15, hcc15, hfr15⟩ := Kd.R_elem HX15.out z67 (x5_1 : Int) (zo) (by have h_ : (x5_1 : Int) < ((x0_1.length : Int) : Int) := zo; first | exact h_ | (have e_ := (Kd.R_reads' HO_0.out).1; omega) | simpa using h_); obtain rfl := k67_openM hM15; have HP15 := Kd.R_seg HX15.out (x5_1 : Int) (zo) (by have h_ : (x5_1 : Int) < ((x0_1.length : Int) : Int) := zo; first | exact h_ | (have e_ := (Kd.R_reads' HO_0.out).1; omega) | simpa using h_) (seg := [.int .i64 (wrap64 (x1_1 + 1))]) (j := 1) hcl15 hcc15 (show 2 ≤ 5 from by decide) (x' := (⟨(rd_T67 y221 x5_1).f0, wrap64 (x1_1 + 1), (rd_T67 y221 x5_1).f2, (rd_T67 y221 x5_1).f3, (rd_T67 y221 x5_1).f4⟩ : S67)) (k67_mkM _ _ _ (⟨(rd_T67 y221 x5_1).f0, wrap64 (x1_1 + 1), (rd_T67 y221 x5_1).f2, (rd_T67 y221 x5_1).f3, (rd_T67 y221 x5_1).f4⟩ : S67) ) (fun _ hk => hk); have hx15_1 := hcc15 1 _ rfl; (try simp only [show (k67).sz = 5 from rfl, Nat.mul_one, Nat.add_zero] at hx15_1); have hf15_1 := hfr15 1; (try simp only [show (k67).sz = 5 from rfl, Nat.mul_one, Nat.add_zero] at hf15_1); clear hcl15 hcc15 hfr15 hM15) | ((with_reducible refine gate_store (t := 3) (p := 24) rfl ?_); refine store_event (t := 3) (p := 24) (v := ?vo_w16) (w1 := (w14.setCell ⟨go6, (x5_1 : Int).toNat * 5 + 1, none⟩ (.int .i64 (wrap64 (x1_1 + 1))))) ?hg ?ho ?hn ?hr ?_; (case ho => rfl); (case hg => rfl); (case hn => rfl); (case hr => first | (go_simp; done) | (go_simp; rfl)); intro w16 hw; have hg : w14.grownBy w16 (some go6) := (by rw [hw]; exact HP15.2); have hp_ : Kd.R k67 67 w16 w0.heap.size (fun k_ => (P0_ k_ ∨ w.heap.size ≤ k_)) (.slice (some ⟨go6, 0, none⟩) x0_1.length co11) y222 := (by rw [hw, Ny222.out]; exact HP15.1); clear HP15; have n0_ := zK (hp_); have n1_ := zK ((by rw [hw]; exact zD (HB.out) GB6.out : Below w0.heap.size w0 w16)); have n2_ := zK (Kept.of_grown (S := (fun k_ => P0_ k_)) hg (by repeat (first | (with_reducible first | exact HK.out | apply Kept.alloc | apply Kept.drewN | apply Kept.drew) | exact HK.out)) (fun k_ e_ => (HO_0.out.1 k_ e_))); clear HO_0; clear HB; clear HK; have HO_0 := n0_; have HB := n1_; have HK := n2_; clear n0_ n1_ n2_; clear hg hw hp_; have p8 : 0 ≤ (x5_1 : Int) := zo; have q8 : (x5_1 : Int) < ((x0_1.length : Int) : Int) := zo; obtain ⟨ce8, hcl8, hM8, hcc8, hfr8⟩ := Kd.R_elem HO_0.out z67 (x5_1 : Int) p8 q8; obtain rfl := k67_openM hM8; have hx8_0 : w16.cell? ⟨go6, (x5_1 : Int).toNat * 5, none⟩ = some (.string ((rd_T67 y222 x5_1).f0)) := hcc8 0 _ rfl; have hx8_1 : w16.cell? ⟨go6, (x5_1 : Int).toNat * 5 + 1, none⟩ = some (.int .i64 ((rd_T67 y222 x5_1).f1)) := hcc8 1 _ rfl; have hx8_2 : w16.cell? ⟨go6, (x5_1 : Int).toNat * 5 + 2, none⟩ = some (.int .i64 ((rd_T67 y222 x5_1).f2)) := hcc8 2 _ rfl; have hx8_3 : w16.cell? ⟨go6, (x5_1 : Int).toNat * 5 + 3, none⟩ = some (.int .i64 ((rd_T67 y222 x5_1).f3)) := hcc8 3 _ rfl; have hx8_4 : w16.cell? ⟨go6, (x5_1 : Int).toNat * 5 + 4, none⟩ = some (.int .i64 ((rd_T67 y222 x5_1).f4)) := hcc8 4 _ rfl; have hf8_0 : w16.frozen? ⟨go6, (x5_1 : Int).toNat * 5, none⟩ = false := hfr8 0; have hf8_1 : w16.frozen? ⟨go6, (x5_1 : Int).toNat * 5 + 1, none⟩ = false := hfr8 1; have hf8_2 : w16.frozen? ⟨go6, (x5_1 : Int).toNat * 5 + 2, none⟩ = false := hfr8 2; have hf8_3 : w16.frozen? ⟨go6, (x5_1 : Int).toNat * 5 + 3, none⟩ = false := hfr8 3; have hf8_4 : w16.frozen? ⟨go6, (x5_1 : Int).toNat * 5 + 4, none⟩ = false := hfr8 4; clear hcl8 hcc8 hfr8 hM8; replace p8 := eq_true p8; replace q8 := eq_true q8; have HX17 := zK (show Kd.R k67 67 w16 w0.heap.size (fun k_ => (P0_ k_ ∨ w.heap.size ≤ k_)) (.slice (some ⟨go6, 0, none⟩) x0_1.length co11) y222 from (by (with_reducible repeat (first | apply Kd.R_alloc | apply Kd.R_drewN | apply Kd.R_drew)); exact HO_0.out)); obtain ⟨ce17, hcl17, hM17, hcc17, hfr17⟩ := Kd.R_elem HX17.out z67 (x5_1 : Int) (zo) (by have h_ : (x5_1 : Int) < ((x0_1.length : Int) : Int) := zo; first | exact h_ | (have e_ := (Kd.R_reads' HO_0.out).1; omega) | simpa using h_); obtain rfl := k67_openM hM17; have HP17 := Kd.R_seg HX17.out (x5_1 : Int) (zo) (by have h_ : (x5_1 : Int) < ((x0_1.length : Int) : Int) := zo; first | exact h_ | (have e_ := (Kd.R_reads' HO_0.out).1; omega) | simpa using h_) (seg := [.int .i64 (wrap64 ((wrap64 (x1_1 + 1)) + 1))]) (j := 2) hcl17 hcc17 (show 3 ≤ 5 from by decide) (x' := (⟨(rd_T67 y222 x5_1).f0, (rd_T67 y222 x5_1).f1, wrap64 ((wrap64 (x1_1 + 1)) + 1), (rd_T67 y222 x5_1).f3, (rd_T67 y222 x5_1).f4⟩ : S67)) (k67_mkM _ _ _ (⟨(rd_T67 y222 x5_1).f0, (rd_T67 y222 x5_1).f1, wrap64 ((wrap64 (x1_1 + 1)) + 1), (rd_T67 y222 x5_1).f3, (rd_T67 y222 x5_1).f4⟩ : S67) ) (fun _ hk => hk); have hx17_2 := hcc17 2 _ rfl; (try simp only [show (k67).sz = 5 from rfl, Nat.mul_one, Nat.add_zero] at hx17_2); have hf17_2 := hfr17 2; (try simp only [show (k67).sz = 5 from rfl, Nat.mul_one, Nat.add_zero] at hf17_2); clear hcl17 hcc17 hfr17 hM17) | ((with_reducible refine gate_store (t := 3) (p := 31) rfl ?_); refine store_event (t := 3) (p := 31) (v := ?vo_w18) (w1 := (w16.setCell ⟨go6, (x5_1 : Int).toNat * 5 + 2, none⟩ (.int .i64 (wrap64 ((wrap64 (x1_1 + 1)) + 1))))) ?hg ?ho ?hn ?hr ?_; (case ho => rfl); (case hg => rfl); (case hn => rfl); (case hr => first | (go_simp; done) | (go_simp; rfl)); intro w18 hw; have hg : w16.grownBy w18 (some go6) := (by rw [hw]; exact HP17.2); have hp_ : Kd.R k67 67 w18 w0.heap.size (fun k_ => (P0_ k_ ∨ w.heap.size ≤ k_)) (.slice (some ⟨go6, 0, none⟩) x0_1.length co11) y223 := (by rw [hw, Ny223.out]; exact HP17.1); clear HP17; have n0_ := zK (hp_); have n1_ := zK ((by rw [hw]; exact zD (HB.out) GB6.out : Below w0.heap.size w0 w18)); have n2_ := zK (Kept.of_grown (S := (fun k_ => P0_ k_)) hg (by repeat (first | (with_reducible first | exact HK.out | apply Kept.alloc | apply Kept.drewN | apply Kept.drew) | exact HK.out)) (fun k_ e_ => (HO_0.out.1 k_ e_))); clear HO_0; clear HB; clear HK; have HO_0 := n0_; have HB := n1_; have HK := n2_; clear n0_ n1_ n2_; clear hg hw hp_; have p9 : 0 ≤ (x5_1 : Int) := zo; have q9 : (x5_1 : Int) < ((x0_1.length : Int) : Int) := zo; obtain ⟨ce9, hcl9, hM9, hcc9, hfr9⟩ := Kd.R_elem HO_0.out z67 (x5_1 : Int) p9 q9; obtain rfl := k67_openM hM9; have hx9_0 : w18.cell? ⟨go6, (x5_1 : Int).toNat * 5, none⟩ = some (.string ((rd_T67 y223 x5_1).f0)) := hcc9 0 _ rfl; have hx9_1 : w18.cell? ⟨go6, (x5_1 : Int).toNat * 5 + 1, none⟩ = some (.int .i64 ((rd_T67 y223 x5_1).f1)) := hcc9 1 _ rfl; have hx9_2 : w18.cell? ⟨go6, (x5_1 : Int).toNat * 5 + 2, none⟩ = some (.int .i64 ((rd_T67 y223 x5_1).f2)) := hcc9 2 _ rfl; have hx9_3 : w18.cell? ⟨go6, (x5_1 : Int).toNat * 5 + 3, none⟩ = some (.int .i64 ((rd_T67 y223 x5_1).f3)) := hcc9 3 _ rfl; have hx9_4 : w18.cell? ⟨go6, (x5_1 : Int).toNat * 5 + 4, none⟩ = some (.int .i64 ((rd_T67 y223 x5_1).f4)) := hcc9 4 _ rfl; have hf9_0 : w18.frozen? ⟨go6, (x5_1 : Int).toNat * 5, none⟩ = false := hfr9 0; have hf9_1 : w18.frozen? ⟨go6, (x5_1 : Int).toNat * 5 + 1, none⟩ = false := hfr9 1; have hf9_2 : w18.frozen? ⟨go6, (x5_1 : Int).toNat * 5 + 2, none⟩ = false := hfr9 2; have hf9_3 : w18.frozen? ⟨go6, (x5_1 : Int).toNat * 5 + 3, none⟩ = false := hfr9 3; have hf9_4 : w18.frozen? ⟨go6, (x5_1 : Int).toNat * 5 + 4, none⟩ = false := hfr9 4; clear hcl9 hcc9 hfr9 hM9; replace p9 := eq_true p9; replace q9 := eq_true q9; have HX19 := zK (show Kd.R k67 67 w18 w0.heap.size (fun k_ => (P0_ k_ ∨ w.heap.size ≤ k_)) (.slice (some ⟨go6, 0, none⟩) x0_1.length co11) y223 from (by (with_reducible repeat (first | apply Kd.R_alloc | apply Kd.R_drewN | apply Kd.R_drew)); exact HO_0.out)); obtain ⟨ce19, hcl19, hM19, hcc19, hfr19⟩ := Kd.R_elem HX19.out z67 (x5_1 : Int) (zo) (by have h_ : (x5_1 : Int) < ((x0_1.length : Int) : Int) := zo; first | exact h_ | (have e_ := (Kd.R_reads' HO_0.out).1; omega) | simpa using h_); obtain rfl := k67_openM hM19; have HP19 := Kd.R_seg HX19.out (x5_1 : Int) (zo) (by have h_ : (x5_1 : Int) < ((x0_1.length : Int) : Int) := zo; first | exact h_ | (have e_ := (Kd.R_reads' HO_0.out).1; omega) | simpa using h_) (seg := [.int .i64 (wrap64 ((wrap64 ((wrap64 (x1_1 + 1)) + 1)) + 1))]) (j := 3) hcl19 hcc19 (show 4 ≤ 5 from by decide) (x' := (⟨(rd_T67 y223 x5_1).f0, (rd_T67 y223 x5_1).f1, (rd_T67 y223 x5_1).f2, wrap64 ((wrap64 ((wrap64 (x1_1 + 1)) + 1)) + 1), (rd_T67 y223 x5_1).f4⟩ : S67)) (k67_mkM _ _ _ (⟨(rd_T67 y223 x5_1).f0, (rd_T67 y223 x5_1).f1, (rd_T67 y223 x5_1).f2, wrap64 ((wrap64 ((wrap64 (x1_1 + 1)) + 1)) + 1), (rd_T67 y223 x5_1).f4⟩ : S67) ) (fun _ hk => hk); have hx19_3 := hcc19 3 _ rfl; (try simp only [show (k67).sz = 5 from rfl, Nat.mul_one, Nat.add_zero] at hx19_3); have hf19_3 := hfr19 3; (try simp only [show (k67).sz = 5 from rfl, Nat.mul_one, Nat.add_zero] at hf19_3); clear hcl19 hcc19 hfr19 hM19) | ((with_reducible refine gate_store (t := 3) (p := 38) rfl ?_); refine store_event (t := 3) (p := 38) (v := ?vo_w20) (w1 := (w18.setCell ⟨go6, (x5_1 : Int).toNat * 5 + 3, none⟩ (.int .i64 (wrap64 ((wrap64 ((wrap64 (x1_1 + 1)) + 1)) + 1))))) ?hg ?ho ?hn ?hr ?_; (case ho => rfl); (case hg => rfl); (case hn => rfl); (case hr => first | (go_simp; done) | (go_simp; rfl)); intro w20 hw; have hg : w18.grownBy w20 (some go6) := (by rw [hw]; exact HP19.2); have hp_ : Kd.R k67 67 w20 w0.heap.size (fun k_ => (P0_ k_ ∨ w.heap.size ≤ k_)) (.slice (some ⟨go6, 0, none⟩) x0_1.length co11) y224 := (by rw [hw, Ny224.out]; exact HP19.1); clear HP19; have n0_ := zK (hp_); have n1_ := zK ((by rw [hw]; exact zD (HB.out) GB6.out : Below w0.heap.size w0 w20)); have n2_ := zK (Kept.of_grown (S := (fun k_ => P0_ k_)) hg (by repeat (first | (with_reducible first | exact HK.out | apply Kept.alloc | apply Kept.drewN | apply Kept.drew) | exact HK.out)) (fun k_ e_ => (HO_0.out.1 k_ e_))); clear HO_0; clear HB; clear HK; have HO_0 := n0_; have HB := n1_; have HK := n2_; clear n0_ n1_ n2_; clear hg hw hp_; have p10 : 0 ≤ (x5_1 : Int) := zo; have q10 : (x5_1 : Int) < ((x0_1.length : Int) : Int) := zo; obtain ⟨ce10, hcl10, hM10, hcc10, hfr10⟩ := Kd.R_elem HO_0.out z67 (x5_1 : Int) p10 q10; obtain rfl := k67_openM hM10; have hx10_0 : w20.cell? ⟨go6, (x5_1 : Int).toNat * 5, none⟩ = some (.string ((rd_T67 y224 x5_1).f0)) := hcc10 0 _ rfl; have hx10_1 : w20.cell? ⟨go6, (x5_1 : Int).toNat * 5 + 1, none⟩ = some (.int .i64 ((rd_T67 y224 x5_1).f1)) := hcc10 1 _ rfl; have hx10_2 : w20.cell? ⟨go6, (x5_1 : Int).toNat * 5 + 2, none⟩ = some (.int .i64 ((rd_T67 y224 x5_1).f2)) := hcc10 2 _ rfl; have hx10_3 : w20.cell? ⟨go6, (x5_1 : Int).toNat * 5 + 3, none⟩ = some (.int .i64 ((rd_T67 y224 x5_1).f3)) := hcc10 3 _ rfl; have hx10_4 : w20.cell? ⟨go6, (x5_1 : Int).toNat * 5 + 4, none⟩ = some (.int .i64 ((rd_T67 y224 x5_1).f4)) := hcc10 4 _ rfl; have hf10_0 : w20.frozen? ⟨go6, (x5_1 : Int).toNat * 5, none⟩ = false := hfr10 0; have hf10_1 : w20.frozen? ⟨go6, (x5_1 : Int).toNat * 5 + 1, none⟩ = false := hfr10 1; have hf10_2 : w20.frozen? ⟨go6, (x5_1 : Int).toNat * 5 + 2, none⟩ = false := hfr10 2; have hf10_3 : w20.frozen? ⟨go6, (x5_1 : Int).toNat * 5 + 3, none⟩ = false := hfr10 3; have hf10_4 : w20.frozen? ⟨go6, (x5_1 : Int).toNat * 5 + 4, none⟩ = false := hfr10 4; clear hcl10 hcc10 hfr10 hM10; replace p10 := eq_true p10; replace q10 := eq_true q10; have HX21 := zK (show Kd.R k67 67 w20 w0.heap.size (fun k_ => (P0_ k_ ∨ w.heap.size ≤ k_)) (.slice (some ⟨go6, 0, none⟩) x0_1.length co11) y224 from (by (with_reducible repeat (first | apply Kd.R_alloc | apply Kd.R_drewN | apply Kd.R_drew)); exact HO_0.out)); obtain ⟨ce21, hcl21, hM21, hcc21, hfr21⟩ := Kd.R_elem HX21.out z67 (x5_1 : Int) (zo) (by have h_ : (x5_1 : Int) < ((x0_1.length : Int) : Int) := zo; first | exact h_ | (have e_ := (Kd.R_reads' HO_0.out).1; omega) | simpa using h_); obtain rfl := k67_openM hM21; have HP21 := Kd.R_seg HX21.out (x5_1 : Int) (zo) (by have h_ : (x5_1 : Int) < ((x0_1.length : Int) : Int) := zo; first | exact h_ | (have e_ := (Kd.R_reads' HO_0.out).1; omega) | simpa using h_) (seg := [.int .i64 (wrap64 ((wrap64 ((wrap64 ((wrap64 (x1_1 + 1)) + 1)) + 1)) + 1))]) (j := 4) hcl21 hcc21 (show 5 ≤ 5 from by decide) (x' := (⟨(rd_T67 y224 x5_1).f0, (rd_T67 y224 x5_1).f1, (rd_T67 y224 x5_1).f2, (rd_T67 y224 x5_1).f3, wrap64 ((wrap64 ((wrap64 ((wrap64 (x1_1 + 1)) + 1)) + 1)) + 1)⟩ : S67)) (k67_mkM _ _ _ (⟨(rd_T67 y224 x5_1).f0, (rd_T67 y224 x5_1).f1, (rd_T67 y224 x5_1).f2, (rd_T67 y224 x5_1).f3, wrap64 ((wrap64 ((wrap64 ((wrap64 (x1_1 + 1)) + 1)) + 1)) + 1)⟩ : S67) ) (fun _ hk => hk); have hx21_4 := hcc21 4 _ rfl; (try simp only [show (k67).sz = 5 from rfl, Nat.mul_one, Nat.add_zero] at hx21_4); have hf21_4 := hfr21 4; (try simp only [show (k67).sz = 5 from rfl, Nat.mul_one, Nat.add_zero] at hf21_4); clear hcl21 hcc21 hfr21 hM21) | ((with_reducible refine gate_store (t := 3) (p := 45) rfl ?_); refine store_event (t := 3) (p := 45) (v := ?vo_w22) (w1 := (w20.setCell ⟨go6, (x5_1 : Int).toNat * 5 + 4, none⟩ (.int .i64 (wrap64 ((wrap64 ((wrap64 ((wrap64 (x1_1 + 1)) + 1)) + 1)) + 1))))) ?hg ?ho ?hn ?hr ?_; (case ho => rfl); (case hg => rfl); (case hn => rfl); (case hr => first | (go_simp; done) | (go_simp; rfl)); intro w22 hw; have hg : w20.grownBy w22 (some go6) := (by rw [hw]; exact HP21.2); have hp_ : Kd.R k67 67 w22 w0.heap.size (fun k_ => (P0_ k_ ∨ w.heap.size ≤ k_)) (.slice (some ⟨go6, 0, none⟩) x0_1.length co11) y225 := (by rw [hw, Ny225.out]; exact HP21.1); clear HP21; have n0_ := zK (hp_); have n1_ := zK ((by rw [hw]; exact zD (HB.out) GB6.out : Below w0.heap.size w0 w22)); have n2_ := zK (Kept.of_grown (S := (fun k_ => P0_ k_)) hg (by repeat (first | (with_reducible first | exact HK.out | apply Kept.alloc | apply Kept.drewN | apply Kept.drew) | exact HK.out)) (fun k_ e_ => (HO_0.out.1 k_ e_))); clear HO_0; clear HB; clear HK; have HO_0 := n0_; have HB := n1_; have HK := n2_; clear n0_ n1_ n2_; clear hg hw hp_))
     go_roundg k1
     case measure => have := HK1.out; omega
     case rel => exact ⟨(y225), (wrap64 ((wrap64 ((wrap64 ((wrap64 ((wrap64 (x1_1 + 1)) + 1)) + 1)) + 1)) + 1)), (wrap64 (x5_1 + 1)), (by first | rfl | (simp; done) | (simp [*]; done)), (by first | rfl | (simp; done) | (simp [*]; done)), H', ⟨by have := HK1.out; omega⟩, ⟨by (with_reducible repeat (first | apply Kd.R_alloc | apply Kd.R_drewN | apply Kd.R_drew)); exact HO_0.out⟩, ⟨by repeat (first | (with_reducible first | exact HK.out | apply Kept.alloc | apply Kept.drewN | apply Kept.drew) | exact HK.out)⟩, ⟨by repeat (first | (with_reducible first | exact HB.out | apply zA | apply zB | apply zC) | exact HB.out)⟩⟩
    ·rw [if_neg c5] at H
     exact absurd H (by simp)
   ·rw [if_neg c3] at H
    have c3b0 : decide (x5_1 < (x0_1.length : Int)) = false := decide_eq_false c3
    clear c3
    simp only [Option.some.injEq, Prod.mk.injEq] at H
    obtain ⟨rfl, rfl⟩ := H
    obtain ⟨Ao23, co23, eo23⟩ := Kd.R_slice HO_0.out
    subst eo23
    go_wp2
    go_ret
    exact ⟨by first | rfl | (simp [errW_none, errW_some] <;> rfl) | (simp [*, errW_none, errW_some] <;> rfl), by (with_reducible repeat (first | apply Kd.R_alloc | apply Kd.R_drewN | apply Kd.R_drew)); exact HO_0.out, by repeat (first | (with_reducible first | exact HB.out | apply zA | apply zB | apply zC) | exact HB.out), by repeat (first | (with_reducible first | exact HK.out | apply Kept.alloc | apply Kept.drewN | apply Kept.drew) | exact HK.out)⟩

end Go.Proofs.Ytecmlikhmkcdpaa.F
