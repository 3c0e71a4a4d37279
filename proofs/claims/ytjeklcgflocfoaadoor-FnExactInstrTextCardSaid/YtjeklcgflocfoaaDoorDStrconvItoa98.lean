/- Contracts: strconv_Itoa_98, impl_Instr_text, impl_InstrText, laws_FnExactInstrText. -/
import Derived.Test.YtjeklcgflocfoaaDoorDK
import Derived.Test.YtjeklcgflocfoaaDoorDLawsSzInstr
import Derived.Test.YtjeklcgflocfoaaDoorDSpecCdText
import Derived.Test.YtjeklcgflocfoaaDoorDImplFormOf
import Derived.Test.YtjeklcgflocfoaaDoorDImplFormImm
import Derived.Test.YtjeklcgflocfoaaDoorDImplIsInstr
import Derived.Test.YtjeklcgflocfoaaDoorDItoa
namespace Go.Proofs.YtjeklcgflocfoaaDoor.D
open Go.RowKit Go.Proofs.YtjeklcgflocfoaaDoorW.PrintWords Go.Proofs.YtjeklcgflocfoaaDoorW.PrintLast Go.Proofs.YtjeklcgflocfoaaDoorW.PrintMore
attribute [local go_sem] max2_int min2_int max_two min_two max_three min_three max_four min_four   -- for this text's walks alone
set_option linter.unusedVariables false
set_option linter.unusedSimpArgs false

/-! ### strconv_Itoa_98: function 98 -/
-- needs: Derived.Test.YtjeklcgflocfoaaDoorDItoa
/- Function 98, strconv.Itoa, is told by hand behind spec_l1Num.calls . -/

/-! ### impl_Instr_text: function 49 -/
mutual
def impl_Instr_text.j0 : Nat → ByteArray → ByteArray → Int → Int → Int → Int → Bool → Bool → Int → Int → Int → ByteArray → Option (ByteArray)
  | 0, _, _, _, _, _, _, _, _, _, _, _, _ => none
  | k + 1, x5, x211000, x211001, x211002, x211003, x211004, x219000, x219001, x219002, x219003, x219004, x219005 => if x219001 = true then ((strconv_Itoa_98.f k x211003).bind fun t221 => (if 2 + t221.size ≤ 9223372036854775807 then (if x5.size + ((⟨#[32, 114]⟩ : ByteArray) ++ t221).size ≤ 9223372036854775807 then (impl_Instr_text.j1 k (x5 ++ ((⟨#[32, 114]⟩ : ByteArray) ++ t221)) x211000 x211001 x211002 x211003 x211004 x219000 x219001 x219002 x219003 x219004 x219005) else (none)) else (none))) else (impl_Instr_text.j1 k x5 x211000 x211001 x211002 x211003 x211004 x219000 x219001 x219002 x219003 x219004 x219005)
def impl_Instr_text.j1 : Nat → ByteArray → ByteArray → Int → Int → Int → Int → Bool → Bool → Int → Int → Int → ByteArray → Option (ByteArray)
  | 0, _, _, _, _, _, _, _, _, _, _, _, _ => none
  | k + 1, x5, x211000, x211001, x211002, x211003, x211004, x219000, x219001, x219002, x219003, x219004, x219005 => (impl_form_imm.f x219000 x219001 x219002 x219003 x219004 x219005).bind fun t222 => (if t222 = true then ((strconv_Itoa_98.f k x211004).bind fun t223 => (if 1 + t223.size ≤ 9223372036854775807 then (if x5.size + ((⟨#[32]⟩ : ByteArray) ++ t223).size ≤ 9223372036854775807 then (some (x5 ++ ((⟨#[32]⟩ : ByteArray) ++ t223))) else (none)) else (none))) else (some x5))
end
def impl_Instr_text.f (k : Nat) (a0_0 : ByteArray) (a0_1 : Int) (a0_2 : Int) (a0_3 : Int) (a0_4 : Int) : Option (ByteArray) := (impl_formOf.f k a0_0).bind fun bt211 => (if a0_0.size + 2 ≤ 9223372036854775807 then ((strconv_Itoa_98.f k a0_1).bind fun t219 => (if (a0_0 ++ (⟨#[32, 114]⟩ : ByteArray)).size + t219.size ≤ 9223372036854775807 then (if bt211.1 = true then ((strconv_Itoa_98.f k a0_2).bind fun t220 => (if 2 + t220.size ≤ 9223372036854775807 then (if ((a0_0 ++ (⟨#[32, 114]⟩ : ByteArray)) ++ t219).size + ((⟨#[32, 114]⟩ : ByteArray) ++ t220).size ≤ 9223372036854775807 then (impl_Instr_text.j0 k (((a0_0 ++ (⟨#[32, 114]⟩ : ByteArray)) ++ t219) ++ ((⟨#[32, 114]⟩ : ByteArray) ++ t220)) a0_0 a0_1 a0_2 a0_3 a0_4 bt211.1 bt211.2.1 bt211.2.2.1 bt211.2.2.2.1 bt211.2.2.2.2.1 bt211.2.2.2.2.2.1) else (none)) else (none))) else (impl_Instr_text.j0 k ((a0_0 ++ (⟨#[32, 114]⟩ : ByteArray)) ++ t219) a0_0 a0_1 a0_2 a0_3 a0_4 bt211.1 bt211.2.1 bt211.2.2.1 bt211.2.2.2.1 bt211.2.2.2.2.1 bt211.2.2.2.2.2.1)) else (none))) else (none))
theorem impl_Instr_text.mono_l : ∀ k, (∀ y0 y1 y2 y3 y4 y5 y6 y7 y8 y9 y10 y11, LeO (impl_Instr_text.j0 k y0 y1 y2 y3 y4 y5 y6 y7 y8 y9 y10 y11) (impl_Instr_text.j0 (k + 1) y0 y1 y2 y3 y4 y5 y6 y7 y8 y9 y10 y11)) ∧ (∀ y0 y1 y2 y3 y4 y5 y6 y7 y8 y9 y10 y11, LeO (impl_Instr_text.j1 k y0 y1 y2 y3 y4 y5 y6 y7 y8 y9 y10 y11) (impl_Instr_text.j1 (k + 1) y0 y1 y2 y3 y4 y5 y6 y7 y8 y9 y10 y11))
  | 0 => ⟨fun _ _ _ _ _ _ _ _ _ _ _ _ r h => by simp [impl_Instr_text.j0] at h, fun _ _ _ _ _ _ _ _ _ _ _ _ r h => by simp [impl_Instr_text.j1] at h⟩
  | k + 1 => by
    obtain ⟨ih0, ih1⟩ := impl_Instr_text.mono_l k
    refine ⟨?_, ?_⟩
    · intro y0 y1 y2 y3 y4 y5 y6 y7 y8 y9 y10 y11
      unfold impl_Instr_text.j0
      repeat' first
      | (with_reducible exact ih0 _ _ _ _ _ _ _ _ _ _ _ _)
      | (with_reducible exact ih1 _ _ _ _ _ _ _ _ _ _ _ _)
      | (with_reducible exact impl_formOf.mono _ _)
      | (with_reducible exact strconv_Itoa_98.mono _ _)
      | (with_reducible exact LeO.refl _)
      | (with_reducible exact LeO.none _)
      | (with_reducible refine LeO.ite ?_ ?_)
      | (with_reducible refine LeO.bind ?_ (fun _ => ?_))
      | exact ih0 _ _ _ _ _ _ _ _ _ _ _ _
      | exact ih1 _ _ _ _ _ _ _ _ _ _ _ _
      | exact impl_formOf.mono _ _
      | exact strconv_Itoa_98.mono _ _
      | exact LeO.none _
      | refine LeO.ite ?_ ?_
      | refine LeO.bind ?_ (fun _ => ?_)
    · intro y0 y1 y2 y3 y4 y5 y6 y7 y8 y9 y10 y11
      unfold impl_Instr_text.j1
      repeat' first
      | (with_reducible exact ih0 _ _ _ _ _ _ _ _ _ _ _ _)
      | (with_reducible exact ih1 _ _ _ _ _ _ _ _ _ _ _ _)
      | (with_reducible exact impl_formOf.mono _ _)
      | (with_reducible exact strconv_Itoa_98.mono _ _)
      | (with_reducible exact LeO.refl _)
      | (with_reducible exact LeO.none _)
      | (with_reducible refine LeO.ite ?_ ?_)
      | (with_reducible refine LeO.bind ?_ (fun _ => ?_))
      | exact ih0 _ _ _ _ _ _ _ _ _ _ _ _
      | exact ih1 _ _ _ _ _ _ _ _ _ _ _ _
      | exact impl_formOf.mono _ _
      | exact strconv_Itoa_98.mono _ _
      | exact LeO.none _
      | refine LeO.ite ?_ ?_
      | refine LeO.bind ?_ (fun _ => ?_)
theorem impl_Instr_text.mono : ∀ a0 a1 a2 a3 a4 k, LeO (impl_Instr_text.f k a0 a1 a2 a3 a4) (impl_Instr_text.f (k + 1) a0 a1 a2 a3 a4) := by
  intro a0 a1 a2 a3 a4 k
  obtain ⟨ih0, ih1⟩ := impl_Instr_text.mono_l k
  unfold impl_Instr_text.f
  repeat' first
      | (with_reducible exact ih0 _ _ _ _ _ _ _ _ _ _ _ _)
      | (with_reducible exact ih1 _ _ _ _ _ _ _ _ _ _ _ _)
      | (with_reducible exact impl_formOf.mono _ _)
      | (with_reducible exact strconv_Itoa_98.mono _ _)
      | (with_reducible exact LeO.refl _)
      | (with_reducible exact LeO.none _)
      | (with_reducible refine LeO.ite ?_ ?_)
      | (with_reducible refine LeO.bind ?_ (fun _ => ?_))
      | exact ih0 _ _ _ _ _ _ _ _ _ _ _ _
      | exact ih1 _ _ _ _ _ _ _ _ _ _ _ _
      | exact impl_formOf.mono _ _
      | exact strconv_Itoa_98.mono _ _
      | exact LeO.none _
      | refine LeO.ite ?_ ?_
      | refine LeO.bind ?_ (fun _ => ?_)
def impl_Instr_text.T2 : Bool × List (List Nat × List Nat) := (true, [([], []), ([0], [0]), ([1], [1]), ([], []), ([3], [3]), ([4], [4]), ([2, 5], [2, 5]), ([6, 5, 0, 1, 2, 3, 4, 5, 6], [6])])
def impl_Instr_text.B2 : List Nat := [0, 1, 3, 0, 8, 24, 63, 127]
theorem impl_Instr_text.tab2 : rtab .any (opsOf Tryd.f49 2) = impl_Instr_text.T2 := by kernel_rfl
theorem impl_Instr_text.bits2 : waitsOk impl_Instr_text.T2.2 impl_Instr_text.B2 = true := by kernel_rfl
set_option maxHeartbeats 8000000 in
set_option maxRecDepth 100000 in
theorem impl_Instr_text.calls (k : Nat) (a0_0 : ByteArray) (a0_1 : Int) (a0_2 : Int) (a0_3 : Int) (a0_4 : Int) (r : ByteArray) (w : World) (h : impl_Instr_text.f k a0_0 a0_1 a0_2 a0_3 a0_4 = some r) :
    Calls Tryd.prog 49 #[.agg #[.string a0_0, .int .i64 a0_1, .int .i64 a0_2, .int .i64 a0_3, .int .i64 a0_4]] w fun e w' => e = .returned (.string r) ∧ Below w.heap.size w w' := by
  have hu35 := Tryd.underlying35
  have hu89 := Tryd.underlying89
  have HB := Aside0.mk (Below.refl w.heap.size w)
  have H : ((impl_formOf.f k a0_0).bind fun bt211 => (if a0_0.size + 2 ≤ 9223372036854775807 then ((strconv_Itoa_98.f k a0_1).bind fun t219 => (if (a0_0 ++ (⟨#[32, 114]⟩ : ByteArray)).size + t219.size ≤ 9223372036854775807 then (if bt211.1 = true then ((strconv_Itoa_98.f k a0_2).bind fun t220 => (if 2 + t220.size ≤ 9223372036854775807 then (if ((a0_0 ++ (⟨#[32, 114]⟩ : ByteArray)) ++ t219).size + ((⟨#[32, 114]⟩ : ByteArray) ++ t220).size ≤ 9223372036854775807 then (impl_Instr_text.j0 k (((a0_0 ++ (⟨#[32, 114]⟩ : ByteArray)) ++ t219) ++ ((⟨#[32, 114]⟩ : ByteArray) ++ t220)) a0_0 a0_1 a0_2 a0_3 a0_4 bt211.1 bt211.2.1 bt211.2.2.1 bt211.2.2.2.1 bt211.2.2.2.2.1 bt211.2.2.2.2.2.1) else (none)) else (none))) else (impl_Instr_text.j0 k ((a0_0 ++ (⟨#[32, 114]⟩ : ByteArray)) ++ t219) a0_0 a0_1 a0_2 a0_3 a0_4 bt211.1 bt211.2.1 bt211.2.2.1 bt211.2.2.2.1 bt211.2.2.2.2.1 bt211.2.2.2.2.2.1)) else (none))) else (none))) = some r := h
  clear h
  replace H := Option.bind_eq_some_iff.mp H
  obtain ⟨⟨t211, t212, t213, t214, t215, t216, t217⟩, A20, H⟩ := H
  replace H : (if a0_0.size + 2 ≤ 9223372036854775807 then ((strconv_Itoa_98.f k a0_1).bind fun t219 => (if (a0_0 ++ (⟨#[32, 114]⟩ : ByteArray)).size + t219.size ≤ 9223372036854775807 then (if t211 = true then ((strconv_Itoa_98.f k a0_2).bind fun t220 => (if 2 + t220.size ≤ 9223372036854775807 then (if ((a0_0 ++ (⟨#[32, 114]⟩ : ByteArray)) ++ t219).size + ((⟨#[32, 114]⟩ : ByteArray) ++ t220).size ≤ 9223372036854775807 then (impl_Instr_text.j0 k (((a0_0 ++ (⟨#[32, 114]⟩ : ByteArray)) ++ t219) ++ ((⟨#[32, 114]⟩ : ByteArray) ++ t220)) a0_0 a0_1 a0_2 a0_3 a0_4 t211 t212 t213 t214 t215 t216) else (none)) else (none))) else (impl_Instr_text.j0 k ((a0_0 ++ (⟨#[32, 114]⟩ : ByteArray)) ++ t219) a0_0 a0_1 a0_2 a0_3 a0_4 t211 t212 t213 t214 t215 t216)) else (none))) else (none)) = some r := H
  have A2 := Aside0.mk A20
  clear A20
  by_cases c3 : a0_0.size + 2 ≤ 9223372036854775807
  · rw [if_pos c3] at H
    have c3b0 := eq_true c3
    have c3b1 : decide (a0_0.size + 2 ≤ 9223372036854775807) = true := decide_eq_true c3
    try have c3b2 : (9223372036854775807 < a0_0.size + 2) = False := eq_false (Nat.not_lt.2 c3)
    replace H := Option.bind_eq_some_iff.mp H
    obtain ⟨t219, A40, H⟩ := H
    replace H : (if (a0_0 ++ (⟨#[32, 114]⟩ : ByteArray)).size + t219.size ≤ 9223372036854775807 then (if t211 = true then ((strconv_Itoa_98.f k a0_2).bind fun t220 => (if 2 + t220.size ≤ 9223372036854775807 then (if ((a0_0 ++ (⟨#[32, 114]⟩ : ByteArray)) ++ t219).size + ((⟨#[32, 114]⟩ : ByteArray) ++ t220).size ≤ 9223372036854775807 then (impl_Instr_text.j0 k (((a0_0 ++ (⟨#[32, 114]⟩ : ByteArray)) ++ t219) ++ ((⟨#[32, 114]⟩ : ByteArray) ++ t220)) a0_0 a0_1 a0_2 a0_3 a0_4 t211 t212 t213 t214 t215 t216) else (none)) else (none))) else (impl_Instr_text.j0 k ((a0_0 ++ (⟨#[32, 114]⟩ : ByteArray)) ++ t219) a0_0 a0_1 a0_2 a0_3 a0_4 t211 t212 t213 t214 t215 t216)) else (none)) = some r := H
    have A4 := Aside0.mk A40
    clear A40
    by_cases c5 : (a0_0 ++ (⟨#[32, 114]⟩ : ByteArray)).size + t219.size ≤ 9223372036854775807
    · rw [if_pos c5] at H
      have c5b0 := eq_true c5
      have c5b1 : decide ((a0_0 ++ (⟨#[32, 114]⟩ : ByteArray)).size + t219.size ≤ 9223372036854775807) = true := decide_eq_true c5
      try have c5b2 : (9223372036854775807 < (a0_0 ++ (⟨#[32, 114]⟩ : ByteArray)).size + t219.size) = False := eq_false (Nat.not_lt.2 c5)
      try have c5b3 : (9223372036854775807 < a0_0.size + 2 + t219.size) = False := eq_false (by have h_ := c5; simp only [ByteArray.size_append] at h_; have q0_ : (⟨#[32, 114]⟩ : ByteArray).size = 2 := rfl; omega)
      have HC6 := Aside0.mk H
      clear H
      go_enter Tryd.func49, Tryd.ntmps49
      try go_wp2_with (first | ((with_reducible refine gate_dst (N := 1) rfl ?_); refine box_event ?hg (N := 1) ?hd (cs := #[.string a0_0, .int .i64 a0_1, .int .i64 a0_2, .int .i64 a0_3, .int .i64 a0_4]) (t := 35) ?hr ?_; (case hd => rfl); (case hg => rfl); (case hr => first | (go_simp; done) | (go_simp; rfl)); intro gb210 hg w7 hbox hb; have n0_ := Aside0.mk (below_step (by repeat (first | (with_reducible first | exact HB.out | apply below_alloc | apply pw_below_drewN | apply below_drew1) | exact HB.out)) hb); have n1_ := Aside0.mk (hbox); have n2_ := Aside0.mk ((by rw [hg]; exact (below_size (by repeat (first | (with_reducible first | exact HB.out | apply below_alloc | apply pw_below_drewN | apply below_drew1) | exact HB.out))) : w.heap.size ≤ gb210)); have n3_ := Aside0.mk ((by rw [hg]; exact (below_size (by repeat (first | (with_reducible first | exact HB.out | apply below_alloc | apply pw_below_drewN | apply below_drew1) | exact HB.out))) : w.heap.size ≤ gb210)); clear HB; have HB := n0_; have BK210 := n1_; have GW210 := n2_; have GE210 := n3_; clear n0_ n1_ n2_ n3_; clear hb hbox hg; have hcz8_0 : w7.cell? ⟨gb210, 0, none⟩ = some (.string a0_0) := (blk_cell BK210.out 0).trans rfl; have hcz8_1 : w7.cell? ⟨gb210, 1, none⟩ = some (.int .i64 a0_1) := (blk_cell BK210.out 1).trans rfl; have hcz8_2 : w7.cell? ⟨gb210, 2, none⟩ = some (.int .i64 a0_2) := (blk_cell BK210.out 2).trans rfl; have hcz8_3 : w7.cell? ⟨gb210, 3, none⟩ = some (.int .i64 a0_3) := (blk_cell BK210.out 3).trans rfl; have hcz8_4 : w7.cell? ⟨gb210, 4, none⟩ = some (.int .i64 a0_4) := (blk_cell BK210.out 4).trans rfl; have hfz8_0 := blk_frozen BK210.out 0; have hfz8_1 := blk_frozen BK210.out 1; have hfz8_2 := blk_frozen BK210.out 2; have hfz8_3 := blk_frozen BK210.out 3; have hfz8_4 := blk_frozen BK210.out 4) | ((with_reducible refine gate_callee (f := 64) rfl ?_); refine goesL_ (some 9) rfl rfl Tryd.func64 (by kernel_rfl) rfl #[.string a0_0] rfl (by (try simp only [List.map_toArray, List.map_cons, List.map_nil]); first | done | rfl | (simp only [List.length_drop, List.length_take]; rfl)) ?_; (with_reducible refine (impl_formOf.calls k a0_0 t211 t212 t213 t214 t215 t216 t217 _ A2.out).mono ?_); rintro e w9 ⟨rfl, hb⟩; refine ⟨_, rfl, ?_⟩; have n0_ := Aside0.mk (blk_below (g := gb210) (o := .cells #[.string a0_0, .int .i64 a0_1, .int .i64 a0_2, .int .i64 a0_3, .int .i64 a0_4] 35 (0, 0)) (by (with_reducible repeat (first | refine blk_drewN ?_ _ | refine blk_drew ?_ | refine blk_alloc ?_ _)); exact BK210.out) hb); have n1_ := Aside0.mk (below_step (by repeat (first | (with_reducible first | exact HB.out | apply below_alloc | apply pw_below_drewN | apply below_drew1 | refine below_set ?_ GE210.out) | exact HB.out)) hb); clear BK210; clear HB; have BK210 := n0_; have HB := n1_; clear n0_ n1_; (try clear hb); (try clear hb2); (try clear hk); (try clear hi)) | ((with_reducible refine gate_dst (N := 3) rfl ?_); refine box_event ?hg (N := 3) ?hd (cs := #[.bool false, .bool false, .int .i64 0, .int .i64 0, .int .i64 0, .string (⟨#[]⟩ : ByteArray)]) (t := 89) ?hr ?_; (case hd => rfl); (case hg => rfl); (case hr => first | (go_simp; done) | (go_simp; rfl)); intro gb218 hg w10 hbox hb; have n0_ := Aside0.mk (blk_below (g := gb210) (o := .cells #[.string a0_0, .int .i64 a0_1, .int .i64 a0_2, .int .i64 a0_3, .int .i64 a0_4] 35 (0, 0)) (by (with_reducible repeat (first | refine blk_drewN ?_ _ | refine blk_drew ?_ | refine blk_alloc ?_ _)); exact BK210.out) hb); have n1_ := Aside0.mk (below_step (by repeat (first | (with_reducible first | exact HB.out | apply below_alloc | apply pw_below_drewN | apply below_drew1 | refine below_set ?_ GE210.out) | exact HB.out)) hb); have n2_ := Aside0.mk (hbox); have n3_ := Aside0.mk ((by rw [hg]; exact (below_size (by repeat (first | (with_reducible first | exact HB.out | apply below_alloc | apply pw_below_drewN | apply below_drew1 | refine below_set ?_ GE210.out) | exact HB.out))) : w.heap.size ≤ gb218)); have n4_ := Aside0.mk ((by rw [hg]; exact (below_size (by repeat (first | (with_reducible first | exact HB.out | apply below_alloc | apply pw_below_drewN | apply below_drew1 | refine below_set ?_ GE210.out) | exact HB.out))) : w.heap.size ≤ gb218)); have n5_ := Aside0.mk ((by rw [hg]; exact Nat.ne_of_lt (blk_lt (g := gb210) (o := .cells #[.string a0_0, .int .i64 a0_1, .int .i64 a0_2, .int .i64 a0_3, .int .i64 a0_4] 35 (0, 0)) (by (with_reducible repeat (first | refine blk_drewN ?_ _ | refine blk_drew ?_ | refine blk_alloc ?_ _)); exact BK210.out)) : gb210 ≠ gb218)); have n6_ := Aside0.mk ((by rw [hg]; exact Nat.ne_of_gt (blk_lt (g := gb210) (o := .cells #[.string a0_0, .int .i64 a0_1, .int .i64 a0_2, .int .i64 a0_3, .int .i64 a0_4] 35 (0, 0)) (by (with_reducible repeat (first | refine blk_drewN ?_ _ | refine blk_drew ?_ | refine blk_alloc ?_ _)); exact BK210.out)) : gb218 ≠ gb210)); clear BK210; clear HB; have BK210 := n0_; have HB := n1_; have BK218 := n2_; have GW218 := n3_; have GE218 := n4_; have NB210_218 := n5_; have NB218_210 := n6_; clear n0_ n1_ n2_ n3_ n4_ n5_ n6_; clear hb hbox hg; have hnb11 := NB218_210.out; have hnc11 := NB210_218.out; have hcz12_0 : w10.cell? ⟨gb218, 0, none⟩ = some (.bool false) := (blk_cell BK218.out 0).trans rfl; have hcz12_1 : w10.cell? ⟨gb218, 1, none⟩ = some (.bool false) := (blk_cell BK218.out 1).trans rfl; have hcz12_2 : w10.cell? ⟨gb218, 2, none⟩ = some (.int .i64 0) := (blk_cell BK218.out 2).trans rfl; have hcz12_3 : w10.cell? ⟨gb218, 3, none⟩ = some (.int .i64 0) := (blk_cell BK218.out 3).trans rfl; have hcz12_4 : w10.cell? ⟨gb218, 4, none⟩ = some (.int .i64 0) := (blk_cell BK218.out 4).trans rfl; have hcz12_5 : w10.cell? ⟨gb218, 5, none⟩ = some (.string (⟨#[]⟩ : ByteArray)) := (blk_cell BK218.out 5).trans rfl; have hfz12_0 := blk_frozen BK218.out 0; have hfz12_1 := blk_frozen BK218.out 1; have hfz12_2 := blk_frozen BK218.out 2; have hfz12_3 := blk_frozen BK218.out 3; have hfz12_4 := blk_frozen BK218.out 4; have hfz12_5 := blk_frozen BK218.out 5))
      have n0_ : Aside0 (((((((w10.setCell ⟨gb218, 0, none⟩ (.bool t211)).setCell ⟨gb218, 1, none⟩ (.bool t212)).setCell ⟨gb218, 2, none⟩ (.int .i64 t213)).setCell ⟨gb218, 3, none⟩ (.int .i64 t214)).setCell ⟨gb218, 4, none⟩ (.int .i64 t215)).setCell ⟨gb218, 5, none⟩ (.string t216)).heap[gb210]? = some (.cells #[.string a0_0, .int .i64 a0_1, .int .i64 a0_2, .int .i64 a0_3, .int .i64 a0_4] 35 (0, 0))) := ⟨by (with_reducible repeat (first | refine blk_drewN ?_ _ | refine blk_drew ?_ | refine blk_alloc ?_ _)); refine blk_far ?_ NB210_218.out _; (with_reducible repeat (first | refine blk_drewN ?_ _ | refine blk_drew ?_ | refine blk_alloc ?_ _)); refine blk_far ?_ NB210_218.out _; (with_reducible repeat (first | refine blk_drewN ?_ _ | refine blk_drew ?_ | refine blk_alloc ?_ _)); refine blk_far ?_ NB210_218.out _; (with_reducible repeat (first | refine blk_drewN ?_ _ | refine blk_drew ?_ | refine blk_alloc ?_ _)); refine blk_far ?_ NB210_218.out _; (with_reducible repeat (first | refine blk_drewN ?_ _ | refine blk_drew ?_ | refine blk_alloc ?_ _)); refine blk_far ?_ NB210_218.out _; (with_reducible repeat (first | refine blk_drewN ?_ _ | refine blk_drew ?_ | refine blk_alloc ?_ _)); refine blk_far ?_ NB210_218.out _; (with_reducible repeat (first | refine blk_drewN ?_ _ | refine blk_drew ?_ | refine blk_alloc ?_ _)); exact BK210.out⟩
      have n1_ : Aside0 (((((((w10.setCell ⟨gb218, 0, none⟩ (.bool t211)).setCell ⟨gb218, 1, none⟩ (.bool t212)).setCell ⟨gb218, 2, none⟩ (.int .i64 t213)).setCell ⟨gb218, 3, none⟩ (.int .i64 t214)).setCell ⟨gb218, 4, none⟩ (.int .i64 t215)).setCell ⟨gb218, 5, none⟩ (.string t216)).heap[gb218]? = some (.cells #[.bool t211, .bool t212, .int .i64 t213, .int .i64 t214, .int .i64 t215, .string t216] 89 (0, 0))) := ⟨by (with_reducible repeat (first | refine blk_drewN ?_ _ | refine blk_drew ?_ | refine blk_alloc ?_ _)); refine blk_put (cs := #[.bool t211, .bool t212, .int .i64 t213, .int .i64 t214, .int .i64 t215, .string (⟨#[]⟩ : ByteArray)]) ?_ 5 _ rfl; (with_reducible repeat (first | refine blk_drewN ?_ _ | refine blk_drew ?_ | refine blk_alloc ?_ _)); refine blk_put (cs := #[.bool t211, .bool t212, .int .i64 t213, .int .i64 t214, .int .i64 0, .string (⟨#[]⟩ : ByteArray)]) ?_ 4 _ rfl; (with_reducible repeat (first | refine blk_drewN ?_ _ | refine blk_drew ?_ | refine blk_alloc ?_ _)); refine blk_put (cs := #[.bool t211, .bool t212, .int .i64 t213, .int .i64 0, .int .i64 0, .string (⟨#[]⟩ : ByteArray)]) ?_ 3 _ rfl; (with_reducible repeat (first | refine blk_drewN ?_ _ | refine blk_drew ?_ | refine blk_alloc ?_ _)); refine blk_put (cs := #[.bool t211, .bool t212, .int .i64 0, .int .i64 0, .int .i64 0, .string (⟨#[]⟩ : ByteArray)]) ?_ 2 _ rfl; (with_reducible repeat (first | refine blk_drewN ?_ _ | refine blk_drew ?_ | refine blk_alloc ?_ _)); refine blk_put (cs := #[.bool t211, .bool false, .int .i64 0, .int .i64 0, .int .i64 0, .string (⟨#[]⟩ : ByteArray)]) ?_ 1 _ rfl; (with_reducible repeat (first | refine blk_drewN ?_ _ | refine blk_drew ?_ | refine blk_alloc ?_ _)); refine blk_put (cs := #[.bool false, .bool false, .int .i64 0, .int .i64 0, .int .i64 0, .string (⟨#[]⟩ : ByteArray)]) ?_ 0 _ rfl; (with_reducible repeat (first | refine blk_drewN ?_ _ | refine blk_drew ?_ | refine blk_alloc ?_ _)); exact BK218.out⟩
      have n2_ : Aside0 (Below w.heap.size w ((((((w10.setCell ⟨gb218, 0, none⟩ (.bool t211)).setCell ⟨gb218, 1, none⟩ (.bool t212)).setCell ⟨gb218, 2, none⟩ (.int .i64 t213)).setCell ⟨gb218, 3, none⟩ (.int .i64 t214)).setCell ⟨gb218, 4, none⟩ (.int .i64 t215)).setCell ⟨gb218, 5, none⟩ (.string t216))) := ⟨by repeat (first | (with_reducible first | exact HB.out | apply below_alloc | apply pw_below_drewN | apply below_drew1 | refine below_set ?_ GE210.out | refine below_set ?_ GE218.out) | exact HB.out)⟩
      (try clear BK210)
      (try clear BK218)
      (try clear HB)
      generalize ((((((w10.setCell ⟨gb218, 0, none⟩ (.bool t211)).setCell ⟨gb218, 1, none⟩ (.bool t212)).setCell ⟨gb218, 2, none⟩ (.int .i64 t213)).setCell ⟨gb218, 3, none⟩ (.int .i64 t214)).setCell ⟨gb218, 4, none⟩ (.int .i64 t215)).setCell ⟨gb218, 5, none⟩ (.string t216)) = w13 at n0_ n1_ n2_ ⊢
      have BK210 := n0_
      have BK218 := n1_
      have HB := n2_
      clear n0_ n1_ n2_
      have n0_ := Aside0.mk (blk_drew BK210.out)
      have n1_ := Aside0.mk (blk_drew BK218.out)
      have n2_ := Aside0.mk (below_drew1 HB.out)
      clear BK210
      clear BK218
      clear HB
      have BK210 := n0_
      have BK218 := n1_
      have HB := n2_
      clear n0_ n1_ n2_
      refine start_ (n := 8) (S := fun w' => w'.cell? ⟨gb210, 0, none⟩ = some (.string a0_0) ∧ w'.cell? ⟨gb210, 1, none⟩ = some (.int .i64 a0_1) ∧ w'.cell? ⟨gb210, 2, none⟩ = some (.int .i64 a0_2) ∧ w'.cell? ⟨gb210, 3, none⟩ = some (.int .i64 a0_3) ∧ w'.cell? ⟨gb210, 4, none⟩ = some (.int .i64 a0_4)) (ds := []) #[false, false, false, false, false, false, false, false] (by kernel_rfl) rfl rfl ⟨(blk_cell BK210.out 0).trans rfl, (blk_cell BK210.out 1).trans rfl, (blk_cell BK210.out 2).trans rfl, (blk_cell BK210.out 3).trans rfl, (blk_cell BK210.out 4).trans rfl⟩ (fun hHeld => ?_); refine with_tabW impl_Instr_text.tab2 impl_Instr_text.bits2 (fun HT_ HW_ => ?_)
      generalize w13.drew = w14 at BK210 BK218 HB hHeld ⊢
      refine pure_ (i := 0) (N := some 12) (v := ?_) (a' := ?_) #[true, false, false, false, false, false, false, false] rfl rfl (any_of HT_.out (by kernel_rfl)) (fun _ _ _ h => h) (Or.inl ⟨by rfl, ?_⟩) ?_ ?_
      rotate_left
      · intro w'
        go_simp
        with_reducible rfl
      rotate_left
      · simp only [Act.put, List.setIfInBounds_toArray, List.set_cons_zero, List.set_cons_succ, i64_w, i32_w]
        rfl
      refine pure_ (i := 3) (N := some 15) (v := ?_) (a' := ?_) #[true, false, false, true, false, false, false, false] rfl rfl (any_of HT_.out (by kernel_rfl)) (fun _ _ _ h => h) (Or.inl ⟨by rfl, ?_⟩) ?_ ?_
      rotate_left
      · intro w'
        go_simp
        with_reducible rfl
      rotate_left
      · simp only [Act.put, List.setIfInBounds_toArray, List.set_cons_zero, List.set_cons_succ, i64_w, i32_w]
        rfl
      refine take_ (i := 1) (N := some 13) (v := ?_) (a' := ?_) #[true, true, false, true, false, false, false, false] rfl rfl (take_ofW HT_.out HW_.out (by kernel_rfl)) (fun _ _ _ h => h) (Or.inl ⟨by rfl, ?_⟩) hHeld ?_ ?_
      rotate_left
      · rintro w' ⟨s0, s1, s2, s3, s4⟩
        go_simp
        with_reducible rfl
      rotate_left
      · simp only [Act.put, List.setIfInBounds_toArray, List.set_cons_zero, List.set_cons_succ, i64_w, i32_w]
        rfl
      refine pure_ (i := 2) (N := some 14) (v := ?_) (a' := ?_) #[true, true, true, true, false, false, false, false] rfl rfl (any_of HT_.out (by kernel_rfl)) (fun _ _ _ h => h) (Or.inl ⟨by rfl, ?_⟩) ?_ ?_
      rotate_left
      · intro w'
        go_simp
        with_reducible rfl
      rotate_left
      · simp only [Act.put, List.setIfInBounds_toArray, List.set_cons_zero, List.set_cons_succ, i64_w, i32_w]
        rfl
      refine take_ (i := 4) (N := some 16) (v := ?_) (a' := ?_) #[true, true, true, true, true, false, false, false] rfl rfl (take_ofW HT_.out HW_.out (by kernel_rfl)) (fun _ _ _ h => h) (Or.inl ⟨by rfl, ?_⟩) hHeld ?_ ?_
      rotate_left
      · rintro w' ⟨s0, s1, s2, s3, s4⟩
        go_simp
        with_reducible rfl
      rotate_left
      · simp only [Act.put, List.setIfInBounds_toArray, List.set_cons_zero, List.set_cons_succ, i64_w, i32_w]
        rfl
      refine one_ (i := 5) (N := some 17) #[true, true, true, true, true, true, false, false] rfl rfl (one_of HT_.out (by kernel_rfl)) (by decide) (fun K hK => ?_)
      refine goes_ Tryd.func98 (by kernel_rfl) rfl #[.int .i64 a0_1] (by rfl) rfl rfl (by (try simp only [List.map_toArray, List.map_cons, List.map_nil]); first | done | rfl | (simp only [List.length_drop, List.length_take]; rfl)) ?_
      with_reducible refine (strconv_Itoa_98.calls k a0_1 t219 _ A4.out).mono ?_
      rintro e w15 ⟨rfl, hb⟩
      refine ⟨_, rfl, ?_⟩
      have n0_ := Aside0.mk (blk_below (g := gb210) (o := .cells #[.string a0_0, .int .i64 a0_1, .int .i64 a0_2, .int .i64 a0_3, .int .i64 a0_4] 35 (0, 0)) (by (with_reducible repeat (first | refine blk_drewN ?_ _ | refine blk_drew ?_ | refine blk_alloc ?_ _)); exact BK210.out) hb)
      have n1_ := Aside0.mk (blk_below (g := gb218) (o := .cells #[.bool t211, .bool t212, .int .i64 t213, .int .i64 t214, .int .i64 t215, .string t216] 89 (0, 0)) (by (with_reducible repeat (first | refine blk_drewN ?_ _ | refine blk_drew ?_ | refine blk_alloc ?_ _)); exact BK218.out) hb)
      have n2_ := Aside0.mk (below_step (by repeat (first | (with_reducible first | exact HB.out | apply below_alloc | apply pw_below_drewN | apply below_drew1 | refine below_set ?_ GE210.out | refine below_set ?_ GE218.out) | exact HB.out)) hb)
      clear BK210
      clear BK218
      clear HB
      have BK210 := n0_
      have BK218 := n1_
      have HB := n2_
      clear n0_ n1_ n2_
      (try clear hb)
      (try clear hb2)
      (try clear hk)
      (try clear hi)
      refine hK.out _ _ ⟨(blk_cell BK210.out 0).trans rfl, (blk_cell BK210.out 1).trans rfl, (blk_cell BK210.out 2).trans rfl, (blk_cell BK210.out 3).trans rfl, (blk_cell BK210.out 4).trans rfl⟩ (fun hHeld => ?_)
      clear hK K
      refine norm_ (a' := ?_) ?_ ?_
      rotate_left
      · show Act.put _ (some 17) _ = _
        simp only [Act.put, List.setIfInBounds_toArray, List.set_cons_zero, List.set_cons_succ, i64_w, i32_w]
        rfl
      refine pure_ (i := 6) (N := some 18) (v := ?_) (a' := ?_) #[true, true, true, true, true, true, true, false] rfl rfl (any_of HT_.out (by kernel_rfl)) (fun _ _ _ h => h) (Or.inl ⟨by rfl, ?_⟩) ?_ ?_
      rotate_left
      · intro w'
        go_simp
        with_reducible rfl
      rotate_left
      · simp only [Act.put, List.setIfInBounds_toArray, List.set_cons_zero, List.set_cons_succ, i64_w, i32_w]
        rfl
      refine pure_ (i := 7) (N := some 5) (v := ?_) (a' := ?_) #[true, true, true, true, true, true, true, true] rfl rfl (any_of HT_.out (by kernel_rfl)) (fun _ _ _ h => h) (Or.inl ⟨by rfl, ?_⟩) ?_ ?_
      rotate_left
      · intro w'
        go_simp
        with_reducible rfl
      rotate_left
      · simp only [Act.put, List.setIfInBounds_toArray, List.set_cons_zero, List.set_cons_succ, i64_w, i32_w]
        rfl
      refine done_ (done_of HT_.out (by kernel_rfl)) ?_
      have hcz16_0 : w15.cell? ⟨gb218, 0, none⟩ = some (.bool t211) := (blk_cell BK218.out 0).trans rfl
      have hcz16_1 : w15.cell? ⟨gb218, 1, none⟩ = some (.bool t212) := (blk_cell BK218.out 1).trans rfl
      have hcz16_2 : w15.cell? ⟨gb218, 2, none⟩ = some (.int .i64 t213) := (blk_cell BK218.out 2).trans rfl
      have hcz16_3 : w15.cell? ⟨gb218, 3, none⟩ = some (.int .i64 t214) := (blk_cell BK218.out 3).trans rfl
      have hcz16_4 : w15.cell? ⟨gb218, 4, none⟩ = some (.int .i64 t215) := (blk_cell BK218.out 4).trans rfl
      have hcz16_5 : w15.cell? ⟨gb218, 5, none⟩ = some (.string t216) := (blk_cell BK218.out 5).trans rfl
      have hfz16_0 := blk_frozen BK218.out 0
      have hfz16_1 := blk_frozen BK218.out 1
      have hfz16_2 := blk_frozen BK218.out 2
      have hfz16_3 := blk_frozen BK218.out 3
      have hfz16_4 := blk_frozen BK218.out 4
      have hfz16_5 := blk_frozen BK218.out 5
      go_upto_if 20 with (fail)
      go_cut [5] (fun v5 wc => ∃ (kq : Nat) (x5_5 : ByteArray), v5 = .string x5_5 ∧ Aside0 (impl_Instr_text.j0 kq x5_5 a0_0 a0_1 a0_2 a0_3 a0_4 t211 t212 t213 t214 t215 t216 = some r) ∧ Aside0 (kq ≤ k) ∧ Aside0 (wc.heap[gb210]? = some (.cells #[.string a0_0, .int .i64 a0_1, .int .i64 a0_2, .int .i64 a0_3, .int .i64 a0_4] 35 (0, 0))) ∧ Aside0 (wc.heap[gb218]? = some (.cells #[.bool t211, .bool t212, .int .i64 t213, .int .i64 t214, .int .i64 t215, .string t216] 89 (0, 0))) ∧ Aside0 (Below w.heap.size w wc))
      case first =>
        have H := HC6.out
        clear HC6
        by_cases c17 : t211 = true
        · subst c17
          have H1 : ((strconv_Itoa_98.f k a0_2).bind fun t220 => (if 2 + t220.size ≤ 9223372036854775807 then (if ((a0_0 ++ (⟨#[32, 114]⟩ : ByteArray)) ++ t219).size + ((⟨#[32, 114]⟩ : ByteArray) ++ t220).size ≤ 9223372036854775807 then (impl_Instr_text.j0 k (((a0_0 ++ (⟨#[32, 114]⟩ : ByteArray)) ++ t219) ++ ((⟨#[32, 114]⟩ : ByteArray) ++ t220)) a0_0 a0_1 a0_2 a0_3 a0_4 true t212 t213 t214 t215 t216) else (none)) else (none))) = some r := by rw [if_pos rfl] at H; exact H
          clear H
          have H := H1
          clear H1
          replace H := Option.bind_eq_some_iff.mp H
          obtain ⟨t220, A180, H⟩ := H
          replace H : (if 2 + t220.size ≤ 9223372036854775807 then (if ((a0_0 ++ (⟨#[32, 114]⟩ : ByteArray)) ++ t219).size + ((⟨#[32, 114]⟩ : ByteArray) ++ t220).size ≤ 9223372036854775807 then (impl_Instr_text.j0 k (((a0_0 ++ (⟨#[32, 114]⟩ : ByteArray)) ++ t219) ++ ((⟨#[32, 114]⟩ : ByteArray) ++ t220)) a0_0 a0_1 a0_2 a0_3 a0_4 true t212 t213 t214 t215 t216) else (none)) else (none)) = some r := H
          have A18 := Aside0.mk A180
          clear A180
          by_cases c19 : 2 + t220.size ≤ 9223372036854775807
          · rw [if_pos c19] at H
            have c19b0 := eq_true c19
            have c19b1 : decide (2 + t220.size ≤ 9223372036854775807) = true := decide_eq_true c19
            try have c19b2 : (9223372036854775807 < 2 + t220.size) = False := eq_false (Nat.not_lt.2 c19)
            by_cases c20 : ((a0_0 ++ (⟨#[32, 114]⟩ : ByteArray)) ++ t219).size + ((⟨#[32, 114]⟩ : ByteArray) ++ t220).size ≤ 9223372036854775807
            · rw [if_pos c20] at H
              have c20b0 := eq_true c20
              have c20b1 : decide (((a0_0 ++ (⟨#[32, 114]⟩ : ByteArray)) ++ t219).size + ((⟨#[32, 114]⟩ : ByteArray) ++ t220).size ≤ 9223372036854775807) = true := decide_eq_true c20
              try have c20b2 : (9223372036854775807 < ((a0_0 ++ (⟨#[32, 114]⟩ : ByteArray)) ++ t219).size + ((⟨#[32, 114]⟩ : ByteArray) ++ t220).size) = False := eq_false (Nat.not_lt.2 c20)
              try have c20b3 : (9223372036854775807 < a0_0.size + 2 + t219.size + (2 + t220.size)) = False := eq_false (by have h_ := c20; simp only [ByteArray.size_append] at h_; have q0_ : (⟨#[32, 114]⟩ : ByteArray).size = 2 := rfl; omega)
              have H' := Aside0.mk H
              clear H
              have hnb21 := NB210_218.out
              have hnc21 := NB218_210.out
              have hcz22_0 : w15.cell? ⟨gb210, 0, none⟩ = some (.string a0_0) := (blk_cell BK210.out 0).trans rfl
              have hcz22_1 : w15.cell? ⟨gb210, 1, none⟩ = some (.int .i64 a0_1) := (blk_cell BK210.out 1).trans rfl
              have hcz22_2 : w15.cell? ⟨gb210, 2, none⟩ = some (.int .i64 a0_2) := (blk_cell BK210.out 2).trans rfl
              have hcz22_3 : w15.cell? ⟨gb210, 3, none⟩ = some (.int .i64 a0_3) := (blk_cell BK210.out 3).trans rfl
              have hcz22_4 : w15.cell? ⟨gb210, 4, none⟩ = some (.int .i64 a0_4) := (blk_cell BK210.out 4).trans rfl
              have hfz22_0 := blk_frozen BK210.out 0
              have hfz22_1 := blk_frozen BK210.out 1
              have hfz22_2 := blk_frozen BK210.out 2
              have hfz22_3 := blk_frozen BK210.out 3
              have hfz22_4 := blk_frozen BK210.out 4
              go_wp2_with (first | ((with_reducible refine gate_callee (f := 98) rfl ?_); refine goesL_ (some 24) rfl rfl Tryd.func98 (by kernel_rfl) rfl #[.int .i64 a0_2] rfl (by (try simp only [List.map_toArray, List.map_cons, List.map_nil]); first | done | rfl | (simp only [List.length_drop, List.length_take]; rfl)) ?_; (with_reducible refine (strconv_Itoa_98.calls k a0_2 t220 _ A18.out).mono ?_); rintro e w23 ⟨rfl, hb⟩; refine ⟨_, rfl, ?_⟩; have n0_ := Aside0.mk (blk_below (g := gb210) (o := .cells #[.string a0_0, .int .i64 a0_1, .int .i64 a0_2, .int .i64 a0_3, .int .i64 a0_4] 35 (0, 0)) (by (with_reducible repeat (first | refine blk_drewN ?_ _ | refine blk_drew ?_ | refine blk_alloc ?_ _)); exact BK210.out) hb); have n1_ := Aside0.mk (blk_below (g := gb218) (o := .cells #[.bool true, .bool t212, .int .i64 t213, .int .i64 t214, .int .i64 t215, .string t216] 89 (0, 0)) (by (with_reducible repeat (first | refine blk_drewN ?_ _ | refine blk_drew ?_ | refine blk_alloc ?_ _)); exact BK218.out) hb); have n2_ := Aside0.mk (below_step (by repeat (first | (with_reducible first | exact HB.out | apply below_alloc | apply pw_below_drewN | apply below_drew1 | refine below_set ?_ GE210.out | refine below_set ?_ GE218.out) | exact HB.out)) hb); clear BK210; clear BK218; clear HB; have BK210 := n0_; have BK218 := n1_; have HB := n2_; clear n0_ n1_ n2_; (try clear hb); (try clear hb2); (try clear hk); (try clear hi)))
              go_meet
              case rel => exact ⟨_, (((a0_0 ++ (⟨#[32, 114]⟩ : ByteArray)) ++ t219) ++ ((⟨#[32, 114]⟩ : ByteArray) ++ t220)), (by first | rfl | (simp; done) | (simp [*]; done)), H', ⟨by first | omega | exact Nat.le_refl _⟩, ⟨by (with_reducible repeat (first | refine blk_drewN ?_ _ | refine blk_drew ?_ | refine blk_alloc ?_ _)); exact BK210.out⟩, ⟨by (with_reducible repeat (first | refine blk_drewN ?_ _ | refine blk_drew ?_ | refine blk_alloc ?_ _)); exact BK218.out⟩, ⟨by repeat (first | (with_reducible first | exact HB.out | apply below_alloc | apply pw_below_drewN | apply below_drew1 | refine below_set ?_ GE210.out | refine below_set ?_ GE218.out) | exact HB.out)⟩⟩
            · rw [if_neg c20] at H
              exact absurd H (by simp)
          · rw [if_neg c19] at H
            exact absurd H (by simp)
        · replace c17 := Bool.eq_false_iff.mpr c17
          subst c17
          have H1 : (impl_Instr_text.j0 k ((a0_0 ++ (⟨#[32, 114]⟩ : ByteArray)) ++ t219) a0_0 a0_1 a0_2 a0_3 a0_4 false t212 t213 t214 t215 t216) = some r := by rw [if_neg (show ¬ (false = true) by decide)] at H; exact H
          clear H
          have H := H1
          clear H1
          have H' := Aside0.mk H
          clear H
          go_wp2
          go_meet
          case rel => exact ⟨_, ((a0_0 ++ (⟨#[32, 114]⟩ : ByteArray)) ++ t219), (by first | rfl | (simp; done) | (simp [*]; done)), H', ⟨by first | omega | exact Nat.le_refl _⟩, ⟨by (with_reducible repeat (first | refine blk_drewN ?_ _ | refine blk_drew ?_ | refine blk_alloc ?_ _)); exact BK210.out⟩, ⟨by (with_reducible repeat (first | refine blk_drewN ?_ _ | refine blk_drew ?_ | refine blk_alloc ?_ _)); exact BK218.out⟩, ⟨by repeat (first | (with_reducible first | exact HB.out | apply below_alloc | apply pw_below_drewN | apply below_drew1 | refine below_set ?_ GE210.out | refine below_set ?_ GE218.out) | exact HB.out)⟩⟩
      case rest =>
        clear HC6
        try clear c1
        try clear c2
        try clear p2
        try clear c3
        try clear c3b0
        try clear c3b1
        try clear c3b2
        try clear c4
        try clear c5
        try clear c5b0
        try clear c5b1
        try clear c5b2
        try clear c6
        try clear c9
        try clear c11
        try clear c17
        try clear c19
        try clear c19b0
        try clear c19b1
        try clear c19b2
        try clear c20
        try clear c20b0
        try clear c20b1
        try clear c20b2
        try clear c21
        try clear hcz12_0
        try clear hcz12_1
        try clear hcz12_2
        try clear hcz12_3
        try clear hcz12_4
        try clear hcz12_5
        try clear hcz16_0
        try clear hcz16_1
        try clear hcz16_2
        try clear hcz16_3
        try clear hcz16_4
        try clear hcz16_5
        try clear hcz22_0
        try clear hcz22_1
        try clear hcz22_2
        try clear hcz22_3
        try clear hcz22_4
        try clear hcz8_0
        try clear hcz8_1
        try clear hcz8_2
        try clear hcz8_3
        try clear hcz8_4
        try clear hfz12_0
        try clear hfz12_1
        try clear hfz12_2
        try clear hfz12_3
        try clear hfz12_4
        try clear hfz12_5
        try clear hfz16_0
        try clear hfz16_1
        try clear hfz16_2
        try clear hfz16_3
        try clear hfz16_4
        try clear hfz16_5
        try clear hfz22_0
        try clear hfz22_1
        try clear hfz22_2
        try clear hfz22_3
        try clear hfz22_4
        try clear hfz8_0
        try clear hfz8_1
        try clear hfz8_2
        try clear hfz8_3
        try clear hfz8_4
        obtain ⟨kq, x5_5, rfl, HA, HJ5, BK210, BK218, HB⟩ := hcut
        cases kq with
        | zero => exact absurd HA.out (by simp [impl_Instr_text.j0])
        | succ kj5 =>
          have H := HA.out
          clear HA
          simp only [impl_Instr_text.j0] at H
          have HC24 := Aside0.mk H
          clear H
          have hnb25 := NB218_210.out
          have hnc25 := NB210_218.out
          have hcz26_0 : wc.cell? ⟨gb218, 0, none⟩ = some (.bool t211) := (blk_cell BK218.out 0).trans rfl
          have hcz26_1 : wc.cell? ⟨gb218, 1, none⟩ = some (.bool t212) := (blk_cell BK218.out 1).trans rfl
          have hcz26_2 : wc.cell? ⟨gb218, 2, none⟩ = some (.int .i64 t213) := (blk_cell BK218.out 2).trans rfl
          have hcz26_3 : wc.cell? ⟨gb218, 3, none⟩ = some (.int .i64 t214) := (blk_cell BK218.out 3).trans rfl
          have hcz26_4 : wc.cell? ⟨gb218, 4, none⟩ = some (.int .i64 t215) := (blk_cell BK218.out 4).trans rfl
          have hcz26_5 : wc.cell? ⟨gb218, 5, none⟩ = some (.string t216) := (blk_cell BK218.out 5).trans rfl
          have hfz26_0 := blk_frozen BK218.out 0
          have hfz26_1 := blk_frozen BK218.out 1
          have hfz26_2 := blk_frozen BK218.out 2
          have hfz26_3 := blk_frozen BK218.out 3
          have hfz26_4 := blk_frozen BK218.out 4
          have hfz26_5 := blk_frozen BK218.out 5
          go_upto_if 28 with (fail)
          go_cut [5] (fun v5 wc => ∃ (kq : Nat) (x5_23 : ByteArray), v5 = .string x5_23 ∧ Aside0 (impl_Instr_text.j1 kq x5_23 a0_0 a0_1 a0_2 a0_3 a0_4 t211 t212 t213 t214 t215 t216 = some r) ∧ Aside0 (kq ≤ kj5) ∧ Aside0 (wc.heap[gb210]? = some (.cells #[.string a0_0, .int .i64 a0_1, .int .i64 a0_2, .int .i64 a0_3, .int .i64 a0_4] 35 (0, 0))) ∧ Aside0 (wc.heap[gb218]? = some (.cells #[.bool t211, .bool t212, .int .i64 t213, .int .i64 t214, .int .i64 t215, .string t216] 89 (0, 0))) ∧ Aside0 (Below w.heap.size w wc))
          case first =>
            have H := HC24.out
            clear HC24
            by_cases c27 : t212 = true
            · subst c27
              have H1 : ((strconv_Itoa_98.f kj5 a0_3).bind fun t221 => (if 2 + t221.size ≤ 9223372036854775807 then (if x5_5.size + ((⟨#[32, 114]⟩ : ByteArray) ++ t221).size ≤ 9223372036854775807 then (impl_Instr_text.j1 kj5 (x5_5 ++ ((⟨#[32, 114]⟩ : ByteArray) ++ t221)) a0_0 a0_1 a0_2 a0_3 a0_4 t211 true t213 t214 t215 t216) else (none)) else (none))) = some r := by rw [if_pos rfl] at H; exact H
              clear H
              have H := H1
              clear H1
              replace H := Option.bind_eq_some_iff.mp H
              obtain ⟨t221, A280, H⟩ := H
              replace H : (if 2 + t221.size ≤ 9223372036854775807 then (if x5_5.size + ((⟨#[32, 114]⟩ : ByteArray) ++ t221).size ≤ 9223372036854775807 then (impl_Instr_text.j1 kj5 (x5_5 ++ ((⟨#[32, 114]⟩ : ByteArray) ++ t221)) a0_0 a0_1 a0_2 a0_3 a0_4 t211 true t213 t214 t215 t216) else (none)) else (none)) = some r := H
              have A28 := Aside0.mk A280
              clear A280
              by_cases c29 : 2 + t221.size ≤ 9223372036854775807
              · rw [if_pos c29] at H
                have c29b0 := eq_true c29
                have c29b1 : decide (2 + t221.size ≤ 9223372036854775807) = true := decide_eq_true c29
                try have c29b2 : (9223372036854775807 < 2 + t221.size) = False := eq_false (Nat.not_lt.2 c29)
                by_cases c30 : x5_5.size + ((⟨#[32, 114]⟩ : ByteArray) ++ t221).size ≤ 9223372036854775807
                · rw [if_pos c30] at H
                  have c30b0 := eq_true c30
                  have c30b1 : decide (x5_5.size + ((⟨#[32, 114]⟩ : ByteArray) ++ t221).size ≤ 9223372036854775807) = true := decide_eq_true c30
                  try have c30b2 : (9223372036854775807 < x5_5.size + ((⟨#[32, 114]⟩ : ByteArray) ++ t221).size) = False := eq_false (Nat.not_lt.2 c30)
                  try have c30b3 : (9223372036854775807 < x5_5.size + (2 + t221.size)) = False := eq_false (by have h_ := c30; simp only [ByteArray.size_append] at h_; have q0_ : (⟨#[32, 114]⟩ : ByteArray).size = 2 := rfl; omega)
                  have H' := Aside0.mk H
                  clear H
                  have hnb31 := NB210_218.out
                  have hnc31 := NB218_210.out
                  have hcz32_0 : wc.cell? ⟨gb210, 0, none⟩ = some (.string a0_0) := (blk_cell BK210.out 0).trans rfl
                  have hcz32_1 : wc.cell? ⟨gb210, 1, none⟩ = some (.int .i64 a0_1) := (blk_cell BK210.out 1).trans rfl
                  have hcz32_2 : wc.cell? ⟨gb210, 2, none⟩ = some (.int .i64 a0_2) := (blk_cell BK210.out 2).trans rfl
                  have hcz32_3 : wc.cell? ⟨gb210, 3, none⟩ = some (.int .i64 a0_3) := (blk_cell BK210.out 3).trans rfl
                  have hcz32_4 : wc.cell? ⟨gb210, 4, none⟩ = some (.int .i64 a0_4) := (blk_cell BK210.out 4).trans rfl
                  have hfz32_0 := blk_frozen BK210.out 0
                  have hfz32_1 := blk_frozen BK210.out 1
                  have hfz32_2 := blk_frozen BK210.out 2
                  have hfz32_3 := blk_frozen BK210.out 3
                  have hfz32_4 := blk_frozen BK210.out 4
                  go_wp2_with (first | ((with_reducible refine gate_callee (f := 98) rfl ?_); refine goesL_ (some 32) rfl rfl Tryd.func98 (by kernel_rfl) rfl #[.int .i64 a0_3] rfl (by (try simp only [List.map_toArray, List.map_cons, List.map_nil]); first | done | rfl | (simp only [List.length_drop, List.length_take]; rfl)) ?_; (with_reducible refine (strconv_Itoa_98.calls kj5 a0_3 t221 _ A28.out).mono ?_); rintro e w33 ⟨rfl, hb⟩; refine ⟨_, rfl, ?_⟩; have n0_ := Aside0.mk (blk_below (g := gb210) (o := .cells #[.string a0_0, .int .i64 a0_1, .int .i64 a0_2, .int .i64 a0_3, .int .i64 a0_4] 35 (0, 0)) (by (with_reducible repeat (first | refine blk_drewN ?_ _ | refine blk_drew ?_ | refine blk_alloc ?_ _)); exact BK210.out) hb); have n1_ := Aside0.mk (blk_below (g := gb218) (o := .cells #[.bool t211, .bool true, .int .i64 t213, .int .i64 t214, .int .i64 t215, .string t216] 89 (0, 0)) (by (with_reducible repeat (first | refine blk_drewN ?_ _ | refine blk_drew ?_ | refine blk_alloc ?_ _)); exact BK218.out) hb); have n2_ := Aside0.mk (below_step (by repeat (first | (with_reducible first | exact HB.out | apply below_alloc | apply pw_below_drewN | apply below_drew1 | refine below_set ?_ GE210.out | refine below_set ?_ GE218.out) | exact HB.out)) hb); clear BK210; clear BK218; clear HB; have BK210 := n0_; have BK218 := n1_; have HB := n2_; clear n0_ n1_ n2_; (try clear hb); (try clear hb2); (try clear hk); (try clear hi)))
                  go_meet
                  case rel => exact ⟨_, (x5_5 ++ ((⟨#[32, 114]⟩ : ByteArray) ++ t221)), (by first | rfl | (simp; done) | (simp [*]; done)), H', ⟨by have := HJ5.out; first | omega | exact Nat.le_refl _⟩, ⟨by (with_reducible repeat (first | refine blk_drewN ?_ _ | refine blk_drew ?_ | refine blk_alloc ?_ _)); exact BK210.out⟩, ⟨by (with_reducible repeat (first | refine blk_drewN ?_ _ | refine blk_drew ?_ | refine blk_alloc ?_ _)); exact BK218.out⟩, ⟨by repeat (first | (with_reducible first | exact HB.out | apply below_alloc | apply pw_below_drewN | apply below_drew1 | refine below_set ?_ GE210.out | refine below_set ?_ GE218.out) | exact HB.out)⟩⟩
                · rw [if_neg c30] at H
                  exact absurd H (by simp)
              · rw [if_neg c29] at H
                exact absurd H (by simp)
            · replace c27 := Bool.eq_false_iff.mpr c27
              subst c27
              have H1 : (impl_Instr_text.j1 kj5 x5_5 a0_0 a0_1 a0_2 a0_3 a0_4 t211 false t213 t214 t215 t216) = some r := by rw [if_neg (show ¬ (false = true) by decide)] at H; exact H
              clear H
              have H := H1
              clear H1
              have H' := Aside0.mk H
              clear H
              go_wp2
              go_meet
              case rel => exact ⟨_, (x5_5), (by first | rfl | (simp; done) | (simp [*]; done)), H', ⟨by have := HJ5.out; first | omega | exact Nat.le_refl _⟩, ⟨by (with_reducible repeat (first | refine blk_drewN ?_ _ | refine blk_drew ?_ | refine blk_alloc ?_ _)); exact BK210.out⟩, ⟨by (with_reducible repeat (first | refine blk_drewN ?_ _ | refine blk_drew ?_ | refine blk_alloc ?_ _)); exact BK218.out⟩, ⟨by repeat (first | (with_reducible first | exact HB.out | apply below_alloc | apply pw_below_drewN | apply below_drew1 | refine below_set ?_ GE210.out | refine below_set ?_ GE218.out) | exact HB.out)⟩⟩
          case rest =>
            clear HC24
            try clear c1
            try clear c2
            try clear p2
            try clear c3
            try clear c3b0
            try clear c3b1
            try clear c3b2
            try clear c4
            try clear c5
            try clear c5b0
            try clear c5b1
            try clear c5b2
            try clear c6
            try clear c9
            try clear c11
            try clear c17
            try clear c19
            try clear c19b0
            try clear c19b1
            try clear c19b2
            try clear c20
            try clear c20b0
            try clear c20b1
            try clear c20b2
            try clear c21
            try clear c25
            try clear c27
            try clear c29
            try clear c29b0
            try clear c29b1
            try clear c29b2
            try clear c30
            try clear c30b0
            try clear c30b1
            try clear c30b2
            try clear c31
            try clear hcz12_0
            try clear hcz12_1
            try clear hcz12_2
            try clear hcz12_3
            try clear hcz12_4
            try clear hcz12_5
            try clear hcz16_0
            try clear hcz16_1
            try clear hcz16_2
            try clear hcz16_3
            try clear hcz16_4
            try clear hcz16_5
            try clear hcz22_0
            try clear hcz22_1
            try clear hcz22_2
            try clear hcz22_3
            try clear hcz22_4
            try clear hcz26_0
            try clear hcz26_1
            try clear hcz26_2
            try clear hcz26_3
            try clear hcz26_4
            try clear hcz26_5
            try clear hcz32_0
            try clear hcz32_1
            try clear hcz32_2
            try clear hcz32_3
            try clear hcz32_4
            try clear hcz8_0
            try clear hcz8_1
            try clear hcz8_2
            try clear hcz8_3
            try clear hcz8_4
            try clear hfz12_0
            try clear hfz12_1
            try clear hfz12_2
            try clear hfz12_3
            try clear hfz12_4
            try clear hfz12_5
            try clear hfz16_0
            try clear hfz16_1
            try clear hfz16_2
            try clear hfz16_3
            try clear hfz16_4
            try clear hfz16_5
            try clear hfz22_0
            try clear hfz22_1
            try clear hfz22_2
            try clear hfz22_3
            try clear hfz22_4
            try clear hfz26_0
            try clear hfz26_1
            try clear hfz26_2
            try clear hfz26_3
            try clear hfz26_4
            try clear hfz26_5
            try clear hfz32_0
            try clear hfz32_1
            try clear hfz32_2
            try clear hfz32_3
            try clear hfz32_4
            try clear hfz8_0
            try clear hfz8_1
            try clear hfz8_2
            try clear hfz8_3
            try clear hfz8_4
            try clear p2
            obtain ⟨kq, x5_23, rfl, HA, HJ23, BK210, BK218, HB⟩ := hcut
            cases kq with
            | zero => exact absurd HA.out (by simp [impl_Instr_text.j1])
            | succ kj23 =>
              have H := HA.out
              clear HA
              simp only [impl_Instr_text.j1] at H
              replace H := Option.bind_eq_some_iff.mp H
              obtain ⟨t222, A340, H⟩ := H
              replace H : (if t222 = true then ((strconv_Itoa_98.f kj23 a0_4).bind fun t223 => (if 1 + t223.size ≤ 9223372036854775807 then (if x5_23.size + ((⟨#[32]⟩ : ByteArray) ++ t223).size ≤ 9223372036854775807 then (some (x5_23 ++ ((⟨#[32]⟩ : ByteArray) ++ t223))) else (none)) else (none))) else (some x5_23)) = some r := H
              have A34 := Aside0.mk A340
              clear A340
              by_cases c35 : t222 = true
              · subst c35
                have H1 : ((strconv_Itoa_98.f kj23 a0_4).bind fun t223 => (if 1 + t223.size ≤ 9223372036854775807 then (if x5_23.size + ((⟨#[32]⟩ : ByteArray) ++ t223).size ≤ 9223372036854775807 then (some (x5_23 ++ ((⟨#[32]⟩ : ByteArray) ++ t223))) else (none)) else (none))) = some r := by rw [if_pos rfl] at H; exact H
                clear H
                have H := H1
                clear H1
                replace H := Option.bind_eq_some_iff.mp H
                obtain ⟨t223, A360, H⟩ := H
                replace H : (if 1 + t223.size ≤ 9223372036854775807 then (if x5_23.size + ((⟨#[32]⟩ : ByteArray) ++ t223).size ≤ 9223372036854775807 then (some (x5_23 ++ ((⟨#[32]⟩ : ByteArray) ++ t223))) else (none)) else (none)) = some r := H
                have A36 := Aside0.mk A360
                clear A360
                by_cases c37 : 1 + t223.size ≤ 9223372036854775807
                · rw [if_pos c37] at H
                  have c37b0 := eq_true c37
                  have c37b1 : decide (1 + t223.size ≤ 9223372036854775807) = true := decide_eq_true c37
                  try have c37b2 : (9223372036854775807 < 1 + t223.size) = False := eq_false (Nat.not_lt.2 c37)
                  by_cases c38 : x5_23.size + ((⟨#[32]⟩ : ByteArray) ++ t223).size ≤ 9223372036854775807
                  · rw [if_pos c38] at H
                    have c38b0 := eq_true c38
                    have c38b1 : decide (x5_23.size + ((⟨#[32]⟩ : ByteArray) ++ t223).size ≤ 9223372036854775807) = true := decide_eq_true c38
                    try have c38b2 : (9223372036854775807 < x5_23.size + ((⟨#[32]⟩ : ByteArray) ++ t223).size) = False := eq_false (Nat.not_lt.2 c38)
                    try have c38b3 : (9223372036854775807 < x5_23.size + (1 + t223.size)) = False := eq_false (by have h_ := c38; simp only [ByteArray.size_append] at h_; have q0_ : (⟨#[32]⟩ : ByteArray).size = 1 := rfl; omega)
                    obtain rfl := Option.some.inj H
                    have hnb39 := NB218_210.out
                    have hnc39 := NB210_218.out
                    have hcz40_0 : wc.cell? ⟨gb218, 0, none⟩ = some (.bool t211) := (blk_cell BK218.out 0).trans rfl
                    have hcz40_1 : wc.cell? ⟨gb218, 1, none⟩ = some (.bool t212) := (blk_cell BK218.out 1).trans rfl
                    have hcz40_2 : wc.cell? ⟨gb218, 2, none⟩ = some (.int .i64 t213) := (blk_cell BK218.out 2).trans rfl
                    have hcz40_3 : wc.cell? ⟨gb218, 3, none⟩ = some (.int .i64 t214) := (blk_cell BK218.out 3).trans rfl
                    have hcz40_4 : wc.cell? ⟨gb218, 4, none⟩ = some (.int .i64 t215) := (blk_cell BK218.out 4).trans rfl
                    have hcz40_5 : wc.cell? ⟨gb218, 5, none⟩ = some (.string t216) := (blk_cell BK218.out 5).trans rfl
                    have hfz40_0 := blk_frozen BK218.out 0
                    have hfz40_1 := blk_frozen BK218.out 1
                    have hfz40_2 := blk_frozen BK218.out 2
                    have hfz40_3 := blk_frozen BK218.out 3
                    have hfz40_4 := blk_frozen BK218.out 4
                    have hfz40_5 := blk_frozen BK218.out 5
                    go_wp2_with (first | ((with_reducible refine gate_callee (f := 65) rfl ?_); refine goesL_ (some 36) rfl rfl Tryd.func65 (by kernel_rfl) rfl #[.agg #[.bool t211, .bool t212, .int .i64 t213, .int .i64 t214, .int .i64 t215, .string t216]] rfl (by (try simp only [List.map_toArray, List.map_cons, List.map_nil]); first | done | rfl | (simp only [List.length_drop, List.length_take]; rfl)) ?_; (with_reducible refine (impl_form_imm.calls t211 t212 t213 t214 t215 t216 true _ A34.out).mono ?_); rintro e w41 ⟨rfl, hb⟩; refine ⟨_, rfl, ?_⟩; have n0_ := Aside0.mk (blk_below (g := gb210) (o := .cells #[.string a0_0, .int .i64 a0_1, .int .i64 a0_2, .int .i64 a0_3, .int .i64 a0_4] 35 (0, 0)) (by (with_reducible repeat (first | refine blk_drewN ?_ _ | refine blk_drew ?_ | refine blk_alloc ?_ _)); exact BK210.out) hb); have n1_ := Aside0.mk (blk_below (g := gb218) (o := .cells #[.bool t211, .bool t212, .int .i64 t213, .int .i64 t214, .int .i64 t215, .string t216] 89 (0, 0)) (by (with_reducible repeat (first | refine blk_drewN ?_ _ | refine blk_drew ?_ | refine blk_alloc ?_ _)); exact BK218.out) hb); have n2_ := Aside0.mk (below_step (by repeat (first | (with_reducible first | exact HB.out | apply below_alloc | apply pw_below_drewN | apply below_drew1 | refine below_set ?_ GE210.out | refine below_set ?_ GE218.out) | exact HB.out)) hb); clear BK210; clear BK218; clear HB; have BK210 := n0_; have BK218 := n1_; have HB := n2_; clear n0_ n1_ n2_; (try clear hb); (try clear hb2); (try clear hk); (try clear hi); have hcz42_0 : w41.cell? ⟨gb210, 0, none⟩ = some (.string a0_0) := (blk_cell BK210.out 0).trans rfl; have hcz42_1 : w41.cell? ⟨gb210, 1, none⟩ = some (.int .i64 a0_1) := (blk_cell BK210.out 1).trans rfl; have hcz42_2 : w41.cell? ⟨gb210, 2, none⟩ = some (.int .i64 a0_2) := (blk_cell BK210.out 2).trans rfl; have hcz42_3 : w41.cell? ⟨gb210, 3, none⟩ = some (.int .i64 a0_3) := (blk_cell BK210.out 3).trans rfl; have hcz42_4 : w41.cell? ⟨gb210, 4, none⟩ = some (.int .i64 a0_4) := (blk_cell BK210.out 4).trans rfl; have hfz42_0 := blk_frozen BK210.out 0; have hfz42_1 := blk_frozen BK210.out 1; have hfz42_2 := blk_frozen BK210.out 2; have hfz42_3 := blk_frozen BK210.out 3; have hfz42_4 := blk_frozen BK210.out 4) | ((with_reducible refine gate_callee (f := 98) rfl ?_); refine goesL_ (some 40) rfl rfl Tryd.func98 (by kernel_rfl) rfl #[.int .i64 a0_4] rfl (by (try simp only [List.map_toArray, List.map_cons, List.map_nil]); first | done | rfl | (simp only [List.length_drop, List.length_take]; rfl)) ?_; (with_reducible refine (strconv_Itoa_98.calls kj23 a0_4 t223 _ A36.out).mono ?_); rintro e w43 ⟨rfl, hb⟩; refine ⟨_, rfl, ?_⟩; have n0_ := Aside0.mk (blk_below (g := gb210) (o := .cells #[.string a0_0, .int .i64 a0_1, .int .i64 a0_2, .int .i64 a0_3, .int .i64 a0_4] 35 (0, 0)) (by (with_reducible repeat (first | refine blk_drewN ?_ _ | refine blk_drew ?_ | refine blk_alloc ?_ _)); exact BK210.out) hb); have n1_ := Aside0.mk (blk_below (g := gb218) (o := .cells #[.bool t211, .bool t212, .int .i64 t213, .int .i64 t214, .int .i64 t215, .string t216] 89 (0, 0)) (by (with_reducible repeat (first | refine blk_drewN ?_ _ | refine blk_drew ?_ | refine blk_alloc ?_ _)); exact BK218.out) hb); have n2_ := Aside0.mk (below_step (by repeat (first | (with_reducible first | exact HB.out | apply below_alloc | apply pw_below_drewN | apply below_drew1 | refine below_set ?_ GE210.out | refine below_set ?_ GE218.out) | exact HB.out)) hb); clear BK210; clear BK218; clear HB; have BK210 := n0_; have BK218 := n1_; have HB := n2_; clear n0_ n1_ n2_; (try clear hb); (try clear hb2); (try clear hk); (try clear hi)))
                    go_ret
                    exact ⟨by first | rfl | (simp [errW_none, errW_some] <;> rfl) | (simp [*, errW_none, errW_some] <;> rfl), by repeat (first | (with_reducible first | exact HB.out | apply below_alloc | apply pw_below_drewN | apply below_drew1 | refine below_set ?_ GE210.out | refine below_set ?_ GE218.out) | exact HB.out)⟩
                  · rw [if_neg c38] at H
                    exact absurd H (by simp)
                · rw [if_neg c37] at H
                  exact absurd H (by simp)
              · replace c35 := Bool.eq_false_iff.mpr c35
                subst c35
                have H1 : (some x5_23) = some r := by rw [if_neg (show ¬ (false = true) by decide)] at H; exact H
                clear H
                have H := H1
                clear H1
                obtain rfl := Option.some.inj H
                have hnb44 := NB218_210.out
                have hnc44 := NB210_218.out
                have hcz45_0 : wc.cell? ⟨gb218, 0, none⟩ = some (.bool t211) := (blk_cell BK218.out 0).trans rfl
                have hcz45_1 : wc.cell? ⟨gb218, 1, none⟩ = some (.bool t212) := (blk_cell BK218.out 1).trans rfl
                have hcz45_2 : wc.cell? ⟨gb218, 2, none⟩ = some (.int .i64 t213) := (blk_cell BK218.out 2).trans rfl
                have hcz45_3 : wc.cell? ⟨gb218, 3, none⟩ = some (.int .i64 t214) := (blk_cell BK218.out 3).trans rfl
                have hcz45_4 : wc.cell? ⟨gb218, 4, none⟩ = some (.int .i64 t215) := (blk_cell BK218.out 4).trans rfl
                have hcz45_5 : wc.cell? ⟨gb218, 5, none⟩ = some (.string t216) := (blk_cell BK218.out 5).trans rfl
                have hfz45_0 := blk_frozen BK218.out 0
                have hfz45_1 := blk_frozen BK218.out 1
                have hfz45_2 := blk_frozen BK218.out 2
                have hfz45_3 := blk_frozen BK218.out 3
                have hfz45_4 := blk_frozen BK218.out 4
                have hfz45_5 := blk_frozen BK218.out 5
                go_wp2_with (first | ((with_reducible refine gate_callee (f := 65) rfl ?_); refine goesL_ (some 36) rfl rfl Tryd.func65 (by kernel_rfl) rfl #[.agg #[.bool t211, .bool t212, .int .i64 t213, .int .i64 t214, .int .i64 t215, .string t216]] rfl (by (try simp only [List.map_toArray, List.map_cons, List.map_nil]); first | done | rfl | (simp only [List.length_drop, List.length_take]; rfl)) ?_; (with_reducible refine (impl_form_imm.calls t211 t212 t213 t214 t215 t216 false _ A34.out).mono ?_); rintro e w46 ⟨rfl, hb⟩; refine ⟨_, rfl, ?_⟩; have n0_ := Aside0.mk (blk_below (g := gb210) (o := .cells #[.string a0_0, .int .i64 a0_1, .int .i64 a0_2, .int .i64 a0_3, .int .i64 a0_4] 35 (0, 0)) (by (with_reducible repeat (first | refine blk_drewN ?_ _ | refine blk_drew ?_ | refine blk_alloc ?_ _)); exact BK210.out) hb); have n1_ := Aside0.mk (blk_below (g := gb218) (o := .cells #[.bool t211, .bool t212, .int .i64 t213, .int .i64 t214, .int .i64 t215, .string t216] 89 (0, 0)) (by (with_reducible repeat (first | refine blk_drewN ?_ _ | refine blk_drew ?_ | refine blk_alloc ?_ _)); exact BK218.out) hb); have n2_ := Aside0.mk (below_step (by repeat (first | (with_reducible first | exact HB.out | apply below_alloc | apply pw_below_drewN | apply below_drew1 | refine below_set ?_ GE210.out | refine below_set ?_ GE218.out) | exact HB.out)) hb); clear BK210; clear BK218; clear HB; have BK210 := n0_; have BK218 := n1_; have HB := n2_; clear n0_ n1_ n2_; (try clear hb); (try clear hb2); (try clear hk); (try clear hi)))
                go_ret
                exact ⟨by first | rfl | (simp [errW_none, errW_some] <;> rfl) | (simp [*, errW_none, errW_some] <;> rfl), by repeat (first | (with_reducible first | exact HB.out | apply below_alloc | apply pw_below_drewN | apply below_drew1 | refine below_set ?_ GE210.out | refine below_set ?_ GE218.out) | exact HB.out)⟩
    · rw [if_neg c5] at H
      exact absurd H (by simp)
  · rw [if_neg c3] at H
    exact absurd H (by simp)

/-! ### impl_InstrText: function 17 -/
def impl_InstrText.f (k : Nat) (a0_0 : ByteArray) (a0_1 : Int) (a0_2 : Int) (a0_3 : Int) (a0_4 : Int) : Option (ByteArray × Bool) := (impl_IsInstr.f k a0_0 a0_1 a0_2 a0_3 a0_4).bind fun t225 => (if t225 = true then ((impl_Instr_text.f k a0_0 a0_1 a0_2 a0_3 a0_4).bind fun t226 => (some (t226, true))) else (some ((⟨#[]⟩ : ByteArray), false)))
theorem impl_InstrText.mono : ∀ a0 a1 a2 a3 a4 k, LeO (impl_InstrText.f k a0 a1 a2 a3 a4) (impl_InstrText.f (k + 1) a0 a1 a2 a3 a4) := by
  intro a0 a1 a2 a3 a4 k
  unfold impl_InstrText.f
  repeat' first
      | (with_reducible exact impl_Instr_text.mono _ _ _ _ _ _)
      | (with_reducible exact impl_IsInstr.mono _ _ _ _ _ _)
      | (with_reducible exact LeO.refl _)
      | (with_reducible exact LeO.none _)
      | (with_reducible refine LeO.ite ?_ ?_)
      | (with_reducible refine LeO.bind ?_ (fun _ => ?_))
      | exact impl_Instr_text.mono _ _ _ _ _ _
      | exact impl_IsInstr.mono _ _ _ _ _ _
      | exact LeO.none _
      | refine LeO.ite ?_ ?_
      | refine LeO.bind ?_ (fun _ => ?_)
set_option maxHeartbeats 8000000 in
set_option maxRecDepth 100000 in
theorem impl_InstrText.calls (k : Nat) (a0_0 : ByteArray) (a0_1 : Int) (a0_2 : Int) (a0_3 : Int) (a0_4 : Int) (r1 : ByteArray) (r2 : Bool) (w : World) (h : impl_InstrText.f k a0_0 a0_1 a0_2 a0_3 a0_4 = some (r1, r2)) :
    Calls Tryd.prog 17 #[.agg #[.string a0_0, .int .i64 a0_1, .int .i64 a0_2, .int .i64 a0_3, .int .i64 a0_4]] w fun e w' => e = .returned (.tuple #[.string r1, .bool r2]) ∧ Below w.heap.size w w' := by
  have hu35 := Tryd.underlying35
  have HB := Aside0.mk (Below.refl w.heap.size w)
  have H : ((impl_IsInstr.f k a0_0 a0_1 a0_2 a0_3 a0_4).bind fun t225 => (if t225 = true then ((impl_Instr_text.f k a0_0 a0_1 a0_2 a0_3 a0_4).bind fun t226 => (some (t226, true))) else (some ((⟨#[]⟩ : ByteArray), false)))) = some (r1, r2) := h
  clear h
  replace H := Option.bind_eq_some_iff.mp H
  obtain ⟨t225, A20, H⟩ := H
  replace H : (if t225 = true then ((impl_Instr_text.f k a0_0 a0_1 a0_2 a0_3 a0_4).bind fun t226 => (some (t226, true))) else (some ((⟨#[]⟩ : ByteArray), false))) = some (r1, r2) := H
  have A2 := Aside0.mk A20
  clear A20
  by_cases c3 : t225 = true
  · subst c3
    have H1 : ((impl_Instr_text.f k a0_0 a0_1 a0_2 a0_3 a0_4).bind fun t226 => (some (t226, true))) = some (r1, r2) := by rw [if_pos rfl] at H; exact H
    clear H
    have H := H1
    clear H1
    replace H := Option.bind_eq_some_iff.mp H
    obtain ⟨t226, A40, H⟩ := H
    replace H : (some (t226, true)) = some (r1, r2) := H
    have A4 := Aside0.mk A40
    clear A40
    simp only [Option.some.injEq, Prod.mk.injEq] at H
    obtain ⟨rfl, rfl⟩ := H
    go_enter Tryd.func17, Tryd.ntmps17
    go_wp2_with (first | ((with_reducible refine gate_dst (N := 1) rfl ?_); refine box_event ?hg (N := 1) ?hd (cs := #[.string a0_0, .int .i64 a0_1, .int .i64 a0_2, .int .i64 a0_3, .int .i64 a0_4]) (t := 35) ?hr ?_; (case hd => rfl); (case hg => rfl); (case hr => first | (go_simp; done) | (go_simp; rfl)); intro gb224 hg w5 hbox hb; have n0_ := Aside0.mk (below_step (by repeat (first | (with_reducible first | exact HB.out | apply below_alloc | apply pw_below_drewN | apply below_drew1) | exact HB.out)) hb); have n1_ := Aside0.mk (hbox); have n2_ := Aside0.mk ((by rw [hg]; exact (below_size (by repeat (first | (with_reducible first | exact HB.out | apply below_alloc | apply pw_below_drewN | apply below_drew1) | exact HB.out))) : w.heap.size ≤ gb224)); have n3_ := Aside0.mk ((by rw [hg]; exact (below_size (by repeat (first | (with_reducible first | exact HB.out | apply below_alloc | apply pw_below_drewN | apply below_drew1) | exact HB.out))) : w.heap.size ≤ gb224)); clear HB; have HB := n0_; have BK224 := n1_; have GW224 := n2_; have GE224 := n3_; clear n0_ n1_ n2_ n3_; clear hb hbox hg; have hcz6_0 : w5.cell? ⟨gb224, 0, none⟩ = some (.string a0_0) := (blk_cell BK224.out 0).trans rfl; have hcz6_1 : w5.cell? ⟨gb224, 1, none⟩ = some (.int .i64 a0_1) := (blk_cell BK224.out 1).trans rfl; have hcz6_2 : w5.cell? ⟨gb224, 2, none⟩ = some (.int .i64 a0_2) := (blk_cell BK224.out 2).trans rfl; have hcz6_3 : w5.cell? ⟨gb224, 3, none⟩ = some (.int .i64 a0_3) := (blk_cell BK224.out 3).trans rfl; have hcz6_4 : w5.cell? ⟨gb224, 4, none⟩ = some (.int .i64 a0_4) := (blk_cell BK224.out 4).trans rfl; have hfz6_0 := blk_frozen BK224.out 0; have hfz6_1 := blk_frozen BK224.out 1; have hfz6_2 := blk_frozen BK224.out 2; have hfz6_3 := blk_frozen BK224.out 3; have hfz6_4 := blk_frozen BK224.out 4) | ((with_reducible refine gate_callee (f := 48) rfl ?_); refine goesL_ (some 5) rfl rfl Tryd.func48 (by kernel_rfl) rfl #[.agg #[.string a0_0, .int .i64 a0_1, .int .i64 a0_2, .int .i64 a0_3, .int .i64 a0_4]] rfl (by (try simp only [List.map_toArray, List.map_cons, List.map_nil]); first | done | rfl | (simp only [List.length_drop, List.length_take]; rfl)) ?_; (with_reducible refine (impl_IsInstr.calls k a0_0 a0_1 a0_2 a0_3 a0_4 true _ A2.out).mono ?_); rintro e w7 ⟨rfl, hb⟩; refine ⟨_, rfl, ?_⟩; have n0_ := Aside0.mk (blk_below (g := gb224) (o := .cells #[.string a0_0, .int .i64 a0_1, .int .i64 a0_2, .int .i64 a0_3, .int .i64 a0_4] 35 (0, 0)) (by (with_reducible repeat (first | refine blk_drewN ?_ _ | refine blk_drew ?_ | refine blk_alloc ?_ _)); exact BK224.out) hb); have n1_ := Aside0.mk (below_step (by repeat (first | (with_reducible first | exact HB.out | apply below_alloc | apply pw_below_drewN | apply below_drew1 | refine below_set ?_ GE224.out) | exact HB.out)) hb); clear BK224; clear HB; have BK224 := n0_; have HB := n1_; clear n0_ n1_; (try clear hb); (try clear hb2); (try clear hk); (try clear hi); have hcz8_0 : w7.cell? ⟨gb224, 0, none⟩ = some (.string a0_0) := (blk_cell BK224.out 0).trans rfl; have hcz8_1 : w7.cell? ⟨gb224, 1, none⟩ = some (.int .i64 a0_1) := (blk_cell BK224.out 1).trans rfl; have hcz8_2 : w7.cell? ⟨gb224, 2, none⟩ = some (.int .i64 a0_2) := (blk_cell BK224.out 2).trans rfl; have hcz8_3 : w7.cell? ⟨gb224, 3, none⟩ = some (.int .i64 a0_3) := (blk_cell BK224.out 3).trans rfl; have hcz8_4 : w7.cell? ⟨gb224, 4, none⟩ = some (.int .i64 a0_4) := (blk_cell BK224.out 4).trans rfl; have hfz8_0 := blk_frozen BK224.out 0; have hfz8_1 := blk_frozen BK224.out 1; have hfz8_2 := blk_frozen BK224.out 2; have hfz8_3 := blk_frozen BK224.out 3; have hfz8_4 := blk_frozen BK224.out 4) | ((with_reducible refine gate_callee (f := 49) rfl ?_); refine goesL_ (some 8) rfl rfl Tryd.func49 (by kernel_rfl) rfl #[.agg #[.string a0_0, .int .i64 a0_1, .int .i64 a0_2, .int .i64 a0_3, .int .i64 a0_4]] rfl (by (try simp only [List.map_toArray, List.map_cons, List.map_nil]); first | done | rfl | (simp only [List.length_drop, List.length_take]; rfl)) ?_; (with_reducible refine (impl_Instr_text.calls k a0_0 a0_1 a0_2 a0_3 a0_4 t226 _ A4.out).mono ?_); rintro e w9 ⟨rfl, hb⟩; refine ⟨_, rfl, ?_⟩; have n0_ := Aside0.mk (blk_below (g := gb224) (o := .cells #[.string a0_0, .int .i64 a0_1, .int .i64 a0_2, .int .i64 a0_3, .int .i64 a0_4] 35 (0, 0)) (by (with_reducible repeat (first | refine blk_drewN ?_ _ | refine blk_drew ?_ | refine blk_alloc ?_ _)); exact BK224.out) hb); have n1_ := Aside0.mk (below_step (by repeat (first | (with_reducible first | exact HB.out | apply below_alloc | apply pw_below_drewN | apply below_drew1 | refine below_set ?_ GE224.out) | exact HB.out)) hb); clear BK224; clear HB; have BK224 := n0_; have HB := n1_; clear n0_ n1_; (try clear hb); (try clear hb2); (try clear hk); (try clear hi)))
    go_ret2
    exact ⟨by first | rfl | (simp [errW_none, errW_some] <;> rfl) | (simp [*, errW_none, errW_some] <;> rfl), by repeat (first | (with_reducible first | exact HB.out | apply below_alloc | apply pw_below_drewN | apply below_drew1 | refine below_set ?_ GE224.out) | exact HB.out)⟩
  · replace c3 := Bool.eq_false_iff.mpr c3
    subst c3
    have H1 : (some ((⟨#[]⟩ : ByteArray), false)) = some (r1, r2) := by rw [if_neg (show ¬ (false = true) by decide)] at H; exact H
    clear H
    have H := H1
    clear H1
    simp only [Option.some.injEq, Prod.mk.injEq] at H
    obtain ⟨rfl, rfl⟩ := H
    go_enter Tryd.func17, Tryd.ntmps17
    go_wp2_with (first | ((with_reducible refine gate_dst (N := 1) rfl ?_); refine box_event ?hg (N := 1) ?hd (cs := #[.string a0_0, .int .i64 a0_1, .int .i64 a0_2, .int .i64 a0_3, .int .i64 a0_4]) (t := 35) ?hr ?_; (case hd => rfl); (case hg => rfl); (case hr => first | (go_simp; done) | (go_simp; rfl)); intro gb224 hg w10 hbox hb; have n0_ := Aside0.mk (below_step (by repeat (first | (with_reducible first | exact HB.out | apply below_alloc | apply pw_below_drewN | apply below_drew1) | exact HB.out)) hb); have n1_ := Aside0.mk (hbox); have n2_ := Aside0.mk ((by rw [hg]; exact (below_size (by repeat (first | (with_reducible first | exact HB.out | apply below_alloc | apply pw_below_drewN | apply below_drew1) | exact HB.out))) : w.heap.size ≤ gb224)); have n3_ := Aside0.mk ((by rw [hg]; exact (below_size (by repeat (first | (with_reducible first | exact HB.out | apply below_alloc | apply pw_below_drewN | apply below_drew1) | exact HB.out))) : w.heap.size ≤ gb224)); clear HB; have HB := n0_; have BK224 := n1_; have GW224 := n2_; have GE224 := n3_; clear n0_ n1_ n2_ n3_; clear hb hbox hg; have hcz11_0 : w10.cell? ⟨gb224, 0, none⟩ = some (.string a0_0) := (blk_cell BK224.out 0).trans rfl; have hcz11_1 : w10.cell? ⟨gb224, 1, none⟩ = some (.int .i64 a0_1) := (blk_cell BK224.out 1).trans rfl; have hcz11_2 : w10.cell? ⟨gb224, 2, none⟩ = some (.int .i64 a0_2) := (blk_cell BK224.out 2).trans rfl; have hcz11_3 : w10.cell? ⟨gb224, 3, none⟩ = some (.int .i64 a0_3) := (blk_cell BK224.out 3).trans rfl; have hcz11_4 : w10.cell? ⟨gb224, 4, none⟩ = some (.int .i64 a0_4) := (blk_cell BK224.out 4).trans rfl; have hfz11_0 := blk_frozen BK224.out 0; have hfz11_1 := blk_frozen BK224.out 1; have hfz11_2 := blk_frozen BK224.out 2; have hfz11_3 := blk_frozen BK224.out 3; have hfz11_4 := blk_frozen BK224.out 4) | ((with_reducible refine gate_callee (f := 48) rfl ?_); refine goesL_ (some 5) rfl rfl Tryd.func48 (by kernel_rfl) rfl #[.agg #[.string a0_0, .int .i64 a0_1, .int .i64 a0_2, .int .i64 a0_3, .int .i64 a0_4]] rfl (by (try simp only [List.map_toArray, List.map_cons, List.map_nil]); first | done | rfl | (simp only [List.length_drop, List.length_take]; rfl)) ?_; (with_reducible refine (impl_IsInstr.calls k a0_0 a0_1 a0_2 a0_3 a0_4 false _ A2.out).mono ?_); rintro e w12 ⟨rfl, hb⟩; refine ⟨_, rfl, ?_⟩; have n0_ := Aside0.mk (blk_below (g := gb224) (o := .cells #[.string a0_0, .int .i64 a0_1, .int .i64 a0_2, .int .i64 a0_3, .int .i64 a0_4] 35 (0, 0)) (by (with_reducible repeat (first | refine blk_drewN ?_ _ | refine blk_drew ?_ | refine blk_alloc ?_ _)); exact BK224.out) hb); have n1_ := Aside0.mk (below_step (by repeat (first | (with_reducible first | exact HB.out | apply below_alloc | apply pw_below_drewN | apply below_drew1 | refine below_set ?_ GE224.out) | exact HB.out)) hb); clear BK224; clear HB; have BK224 := n0_; have HB := n1_; clear n0_ n1_; (try clear hb); (try clear hb2); (try clear hk); (try clear hi)))
    go_ret2
    exact ⟨by first | rfl | (simp [errW_none, errW_some] <;> rfl) | (simp [*, errW_none, errW_some] <;> rfl), by repeat (first | (with_reducible first | exact HB.out | apply below_alloc | apply pw_below_drewN | apply below_drew1 | refine below_set ?_ GE224.out) | exact HB.out)⟩

/-! ### laws_FnExactInstrText: function 4 -/
def laws_FnExactInstrText.f (k : Nat) (a0_0 : ByteArray) (a0_1 : Int) (a0_2 : Int) (a0_3 : Int) (a0_4 : Int) : Option (Bool) := (laws_szInstr.f a0_0 a0_1 a0_2 a0_3 a0_4 1048576).bind fun t228 => (if t228 < 0 then (some true) else ((laws_toInstr.f a0_0 a0_1 a0_2 a0_3 a0_4).bind fun bt229 => ((spec_InstrText.f k bt229.1 bt229.2.1 bt229.2.2.1 bt229.2.2.2.1 bt229.2.2.2.2).bind fun bt234 => ((laws_toInstr.f a0_0 a0_1 a0_2 a0_3 a0_4).bind fun bt236 => ((impl_InstrText.f k bt236.1 bt236.2.1 bt236.2.2.1 bt236.2.2.2.1 bt236.2.2.2.2).bind fun bt241 => (if bt241.1.toList = bt234.1.toList then (if (bt241.2 != bt234.2) = true then (some false) else (some true)) else (some false)))))))
theorem laws_FnExactInstrText.mono : ∀ a0 a1 a2 a3 a4 k, LeO (laws_FnExactInstrText.f k a0 a1 a2 a3 a4) (laws_FnExactInstrText.f (k + 1) a0 a1 a2 a3 a4) := by
  intro a0 a1 a2 a3 a4 k
  unfold laws_FnExactInstrText.f
  repeat' first
      | (with_reducible exact impl_InstrText.mono _ _ _ _ _ _)
      | (with_reducible exact spec_InstrText.mono _ _ _ _ _ _)
      | (with_reducible exact LeO.refl _)
      | (with_reducible exact LeO.none _)
      | (with_reducible refine LeO.ite ?_ ?_)
      | (with_reducible refine LeO.bind ?_ (fun _ => ?_))
      | exact impl_InstrText.mono _ _ _ _ _ _
      | exact spec_InstrText.mono _ _ _ _ _ _
      | exact LeO.none _
      | refine LeO.ite ?_ ?_
      | refine LeO.bind ?_ (fun _ => ?_)
set_option maxHeartbeats 8000000 in
set_option maxRecDepth 100000 in
theorem laws_FnExactInstrText.calls (k : Nat) (a0_0 : ByteArray) (a0_1 : Int) (a0_2 : Int) (a0_3 : Int) (a0_4 : Int) (r : Bool) (w : World) (h : laws_FnExactInstrText.f k a0_0 a0_1 a0_2 a0_3 a0_4 = some r) (hr : r = true) :
    Calls Tryd.prog 4 #[.agg #[.string a0_0, .int .i64 a0_1, .int .i64 a0_2, .int .i64 a0_3, .int .i64 a0_4]] w fun e w' => e = .returned (.bool r) ∧ Below w.heap.size w w' := by
  have hu31 := Tryd.underlying31
  have HB := Aside0.mk (Below.refl w.heap.size w)
  have H : ((laws_szInstr.f a0_0 a0_1 a0_2 a0_3 a0_4 1048576).bind fun t228 => (if t228 < 0 then (some true) else ((laws_toInstr.f a0_0 a0_1 a0_2 a0_3 a0_4).bind fun bt229 => ((spec_InstrText.f k bt229.1 bt229.2.1 bt229.2.2.1 bt229.2.2.2.1 bt229.2.2.2.2).bind fun bt234 => ((laws_toInstr.f a0_0 a0_1 a0_2 a0_3 a0_4).bind fun bt236 => ((impl_InstrText.f k bt236.1 bt236.2.1 bt236.2.2.1 bt236.2.2.2.1 bt236.2.2.2.2).bind fun bt241 => (if bt241.1.toList = bt234.1.toList then (if (bt241.2 != bt234.2) = true then (some false) else (some true)) else (some false)))))))) = some r := h
  clear h
  replace H := Option.bind_eq_some_iff.mp H
  obtain ⟨t228, A20, H⟩ := H
  replace H : (if t228 < 0 then (some true) else ((laws_toInstr.f a0_0 a0_1 a0_2 a0_3 a0_4).bind fun bt229 => ((spec_InstrText.f k bt229.1 bt229.2.1 bt229.2.2.1 bt229.2.2.2.1 bt229.2.2.2.2).bind fun bt234 => ((laws_toInstr.f a0_0 a0_1 a0_2 a0_3 a0_4).bind fun bt236 => ((impl_InstrText.f k bt236.1 bt236.2.1 bt236.2.2.1 bt236.2.2.2.1 bt236.2.2.2.2).bind fun bt241 => (if bt241.1.toList = bt234.1.toList then (if (bt241.2 != bt234.2) = true then (some false) else (some true)) else (some false))))))) = some r := H
  have A2 := Aside0.mk A20
  clear A20
  by_cases c3 : t228 < 0
  · rw [if_pos c3] at H
    have c3b0 : decide (t228 < 0) = true := decide_eq_true c3
    clear c3
    obtain rfl := Option.some.inj H
    go_enter Tryd.func4, Tryd.ntmps4
    go_wp2_with (first | ((with_reducible refine gate_dst (N := 1) rfl ?_); refine box_event ?hg (N := 1) ?hd (cs := #[.string a0_0, .int .i64 a0_1, .int .i64 a0_2, .int .i64 a0_3, .int .i64 a0_4]) (t := 31) ?hr ?_; (case hd => rfl); (case hg => rfl); (case hr => first | (go_simp; done) | (go_simp; rfl)); intro gb227 hg w4 hbox hb; have n0_ := Aside0.mk (below_step (by repeat (first | (with_reducible first | exact HB.out | apply below_alloc | apply pw_below_drewN | apply below_drew1) | exact HB.out)) hb); have n1_ := Aside0.mk (hbox); have n2_ := Aside0.mk ((by rw [hg]; exact (below_size (by repeat (first | (with_reducible first | exact HB.out | apply below_alloc | apply pw_below_drewN | apply below_drew1) | exact HB.out))) : w.heap.size ≤ gb227)); have n3_ := Aside0.mk ((by rw [hg]; exact (below_size (by repeat (first | (with_reducible first | exact HB.out | apply below_alloc | apply pw_below_drewN | apply below_drew1) | exact HB.out))) : w.heap.size ≤ gb227)); clear HB; have HB := n0_; have BK227 := n1_; have GW227 := n2_; have GE227 := n3_; clear n0_ n1_ n2_ n3_; clear hb hbox hg; have hcz5_0 : w4.cell? ⟨gb227, 0, none⟩ = some (.string a0_0) := (blk_cell BK227.out 0).trans rfl; have hcz5_1 : w4.cell? ⟨gb227, 1, none⟩ = some (.int .i64 a0_1) := (blk_cell BK227.out 1).trans rfl; have hcz5_2 : w4.cell? ⟨gb227, 2, none⟩ = some (.int .i64 a0_2) := (blk_cell BK227.out 2).trans rfl; have hcz5_3 : w4.cell? ⟨gb227, 3, none⟩ = some (.int .i64 a0_3) := (blk_cell BK227.out 3).trans rfl; have hcz5_4 : w4.cell? ⟨gb227, 4, none⟩ = some (.int .i64 a0_4) := (blk_cell BK227.out 4).trans rfl; have hfz5_0 := blk_frozen BK227.out 0; have hfz5_1 := blk_frozen BK227.out 1; have hfz5_2 := blk_frozen BK227.out 2; have hfz5_3 := blk_frozen BK227.out 3; have hfz5_4 := blk_frozen BK227.out 4) | ((with_reducible refine gate_callee (f := 14) rfl ?_); refine goesL_ (some 10) rfl rfl Tryd.func14 (by kernel_rfl) rfl #[.agg #[.string a0_0, .int .i64 a0_1, .int .i64 a0_2, .int .i64 a0_3, .int .i64 a0_4], .int .i64 1048576] rfl (by (try simp only [List.map_toArray, List.map_cons, List.map_nil]); first | done | rfl | (simp only [List.length_drop, List.length_take]; rfl)) ?_; (with_reducible refine (laws_szInstr.calls a0_0 a0_1 a0_2 a0_3 a0_4 1048576 t228 _ A2.out).mono ?_); rintro e w6 ⟨rfl, hb⟩; refine ⟨_, rfl, ?_⟩; have n0_ := Aside0.mk (blk_below (g := gb227) (o := .cells #[.string a0_0, .int .i64 a0_1, .int .i64 a0_2, .int .i64 a0_3, .int .i64 a0_4] 31 (0, 0)) (by (with_reducible repeat (first | refine blk_drewN ?_ _ | refine blk_drew ?_ | refine blk_alloc ?_ _)); exact BK227.out) hb); have n1_ := Aside0.mk (below_step (by repeat (first | (with_reducible first | exact HB.out | apply below_alloc | apply pw_below_drewN | apply below_drew1 | refine below_set ?_ GE227.out) | exact HB.out)) hb); clear BK227; clear HB; have BK227 := n0_; have HB := n1_; clear n0_ n1_; (try clear hb); (try clear hb2); (try clear hk); (try clear hi)))
    go_ret
    exact ⟨by first | rfl | (simp [errW_none, errW_some] <;> rfl) | (simp [*, errW_none, errW_some] <;> rfl), by repeat (first | (with_reducible first | exact HB.out | apply below_alloc | apply pw_below_drewN | apply below_drew1 | refine below_set ?_ GE227.out) | exact HB.out)⟩
  · rw [if_neg c3] at H
    have c3b0 : decide (t228 < 0) = false := decide_eq_false c3
    clear c3
    replace H := Option.bind_eq_some_iff.mp H
    obtain ⟨⟨t229, t230, t231, t232, t233⟩, A70, H⟩ := H
    replace H : ((spec_InstrText.f k t229 t230 t231 t232 t233).bind fun bt234 => ((laws_toInstr.f a0_0 a0_1 a0_2 a0_3 a0_4).bind fun bt236 => ((impl_InstrText.f k bt236.1 bt236.2.1 bt236.2.2.1 bt236.2.2.2.1 bt236.2.2.2.2).bind fun bt241 => (if bt241.1.toList = bt234.1.toList then (if (bt241.2 != bt234.2) = true then (some false) else (some true)) else (some false))))) = some r := H
    have A7 := Aside0.mk A70
    clear A70
    replace H := Option.bind_eq_some_iff.mp H
    obtain ⟨⟨t234, t235⟩, A80, H⟩ := H
    replace H : ((laws_toInstr.f a0_0 a0_1 a0_2 a0_3 a0_4).bind fun bt236 => ((impl_InstrText.f k bt236.1 bt236.2.1 bt236.2.2.1 bt236.2.2.2.1 bt236.2.2.2.2).bind fun bt241 => (if bt241.1.toList = t234.toList then (if (bt241.2 != t235) = true then (some false) else (some true)) else (some false)))) = some r := H
    have A8 := Aside0.mk A80
    clear A80
    replace H := Option.bind_eq_some_iff.mp H
    obtain ⟨⟨t236, t237, t238, t239, t240⟩, A90, H⟩ := H
    replace H : ((impl_InstrText.f k t236 t237 t238 t239 t240).bind fun bt241 => (if bt241.1.toList = t234.toList then (if (bt241.2 != t235) = true then (some false) else (some true)) else (some false))) = some r := H
    have A9 := Aside0.mk A90
    clear A90
    replace H := Option.bind_eq_some_iff.mp H
    obtain ⟨⟨t241, t242⟩, A100, H⟩ := H
    replace H : (if t241.toList = t234.toList then (if (t242 != t235) = true then (some false) else (some true)) else (some false)) = some r := H
    have A10 := Aside0.mk A100
    clear A100
    by_cases c11 : t241.toList = t234.toList
    · rw [if_pos c11] at H
      have c11b0 : (t241.toList == t234.toList) = true := beq_iff_eq.mpr c11
      have c11b1 : (t241.toList != t234.toList) = false := bne_eq_false_iff_eq.mpr c11
      clear c11
      by_cases c12 : (t242 != t235) = true
      · rw [if_pos c12] at H
        have c12b0 : (t242 != t235) = true := c12
        (try (have c12b1 : decide (t242 = t235) = false := by simpa using c12))
        (try (have c12b2 : (t242 == t235) = false := by simpa using c12))
        (try (have c12b3 : ¬ (t242 = t235) := by simpa using c12))
        clear c12
        exact absurd ((Option.some.inj H).trans hr) (by decide)
      · rw [if_neg c12] at H
        have c12b0 : (t242 != t235) = false := by simpa using c12
        (try (have c12b1 : decide (t242 = t235) = true := by simpa using c12))
        (try (have c12b2 : (t242 == t235) = true := by simpa using c12))
        clear c12
        obtain rfl := Option.some.inj H
        go_enter Tryd.func4, Tryd.ntmps4
        go_wp2_with (first | ((with_reducible refine gate_dst (N := 1) rfl ?_); refine box_event ?hg (N := 1) ?hd (cs := #[.string a0_0, .int .i64 a0_1, .int .i64 a0_2, .int .i64 a0_3, .int .i64 a0_4]) (t := 31) ?hr ?_; (case hd => rfl); (case hg => rfl); (case hr => first | (go_simp; done) | (go_simp; rfl)); intro gb227 hg w22 hbox hb; have n0_ := Aside0.mk (below_step (by repeat (first | (with_reducible first | exact HB.out | apply below_alloc | apply pw_below_drewN | apply below_drew1) | exact HB.out)) hb); have n1_ := Aside0.mk (hbox); have n2_ := Aside0.mk ((by rw [hg]; exact (below_size (by repeat (first | (with_reducible first | exact HB.out | apply below_alloc | apply pw_below_drewN | apply below_drew1) | exact HB.out))) : w.heap.size ≤ gb227)); have n3_ := Aside0.mk ((by rw [hg]; exact (below_size (by repeat (first | (with_reducible first | exact HB.out | apply below_alloc | apply pw_below_drewN | apply below_drew1) | exact HB.out))) : w.heap.size ≤ gb227)); clear HB; have HB := n0_; have BK227 := n1_; have GW227 := n2_; have GE227 := n3_; clear n0_ n1_ n2_ n3_; clear hb hbox hg; have hcz23_0 : w22.cell? ⟨gb227, 0, none⟩ = some (.string a0_0) := (blk_cell BK227.out 0).trans rfl; have hcz23_1 : w22.cell? ⟨gb227, 1, none⟩ = some (.int .i64 a0_1) := (blk_cell BK227.out 1).trans rfl; have hcz23_2 : w22.cell? ⟨gb227, 2, none⟩ = some (.int .i64 a0_2) := (blk_cell BK227.out 2).trans rfl; have hcz23_3 : w22.cell? ⟨gb227, 3, none⟩ = some (.int .i64 a0_3) := (blk_cell BK227.out 3).trans rfl; have hcz23_4 : w22.cell? ⟨gb227, 4, none⟩ = some (.int .i64 a0_4) := (blk_cell BK227.out 4).trans rfl; have hfz23_0 := blk_frozen BK227.out 0; have hfz23_1 := blk_frozen BK227.out 1; have hfz23_2 := blk_frozen BK227.out 2; have hfz23_3 := blk_frozen BK227.out 3; have hfz23_4 := blk_frozen BK227.out 4) | ((with_reducible refine gate_callee (f := 14) rfl ?_); refine goesL_ (some 10) rfl rfl Tryd.func14 (by kernel_rfl) rfl #[.agg #[.string a0_0, .int .i64 a0_1, .int .i64 a0_2, .int .i64 a0_3, .int .i64 a0_4], .int .i64 1048576] rfl (by (try simp only [List.map_toArray, List.map_cons, List.map_nil]); first | done | rfl | (simp only [List.length_drop, List.length_take]; rfl)) ?_; (with_reducible refine (laws_szInstr.calls a0_0 a0_1 a0_2 a0_3 a0_4 1048576 t228 _ A2.out).mono ?_); rintro e w24 ⟨rfl, hb⟩; refine ⟨_, rfl, ?_⟩; have n0_ := Aside0.mk (blk_below (g := gb227) (o := .cells #[.string a0_0, .int .i64 a0_1, .int .i64 a0_2, .int .i64 a0_3, .int .i64 a0_4] 31 (0, 0)) (by (with_reducible repeat (first | refine blk_drewN ?_ _ | refine blk_drew ?_ | refine blk_alloc ?_ _)); exact BK227.out) hb); have n1_ := Aside0.mk (below_step (by repeat (first | (with_reducible first | exact HB.out | apply below_alloc | apply pw_below_drewN | apply below_drew1 | refine below_set ?_ GE227.out) | exact HB.out)) hb); clear BK227; clear HB; have BK227 := n0_; have HB := n1_; clear n0_ n1_; (try clear hb); (try clear hb2); (try clear hk); (try clear hi); have hcz25_0 : w24.cell? ⟨gb227, 0, none⟩ = some (.string a0_0) := (blk_cell BK227.out 0).trans rfl; have hcz25_1 : w24.cell? ⟨gb227, 1, none⟩ = some (.int .i64 a0_1) := (blk_cell BK227.out 1).trans rfl; have hcz25_2 : w24.cell? ⟨gb227, 2, none⟩ = some (.int .i64 a0_2) := (blk_cell BK227.out 2).trans rfl; have hcz25_3 : w24.cell? ⟨gb227, 3, none⟩ = some (.int .i64 a0_3) := (blk_cell BK227.out 3).trans rfl; have hcz25_4 : w24.cell? ⟨gb227, 4, none⟩ = some (.int .i64 a0_4) := (blk_cell BK227.out 4).trans rfl; have hfz25_0 := blk_frozen BK227.out 0; have hfz25_1 := blk_frozen BK227.out 1; have hfz25_2 := blk_frozen BK227.out 2; have hfz25_3 := blk_frozen BK227.out 3; have hfz25_4 := blk_frozen BK227.out 4) | ((with_reducible refine gate_callee (f := 16) rfl ?_); refine goesL_ (some 15) rfl rfl Tryd.func16 (by kernel_rfl) rfl #[.agg #[.string a0_0, .int .i64 a0_1, .int .i64 a0_2, .int .i64 a0_3, .int .i64 a0_4]] rfl (by (try simp only [List.map_toArray, List.map_cons, List.map_nil]); first | done | rfl | (simp only [List.length_drop, List.length_take]; rfl)) ?_; (with_reducible refine (laws_toInstr.calls a0_0 a0_1 a0_2 a0_3 a0_4 t229 t230 t231 t232 t233 _ A7.out).mono ?_); rintro e w26 ⟨rfl, hb⟩; refine ⟨_, rfl, ?_⟩; have n0_ := Aside0.mk (blk_below (g := gb227) (o := .cells #[.string a0_0, .int .i64 a0_1, .int .i64 a0_2, .int .i64 a0_3, .int .i64 a0_4] 31 (0, 0)) (by (with_reducible repeat (first | refine blk_drewN ?_ _ | refine blk_drew ?_ | refine blk_alloc ?_ _)); exact BK227.out) hb); have n1_ := Aside0.mk (below_step (by repeat (first | (with_reducible first | exact HB.out | apply below_alloc | apply pw_below_drewN | apply below_drew1 | refine below_set ?_ GE227.out) | exact HB.out)) hb); clear BK227; clear HB; have BK227 := n0_; have HB := n1_; clear n0_ n1_; (try clear hb); (try clear hb2); (try clear hk); (try clear hi)) | ((with_reducible refine gate_callee (f := 15) rfl ?_); refine goesL_ (some 16) rfl rfl Tryd.func15 (by kernel_rfl) rfl #[.agg #[.string t229, .int .i64 t230, .int .i64 t231, .int .i64 t232, .int .i64 t233]] rfl (by (try simp only [List.map_toArray, List.map_cons, List.map_nil]); first | done | rfl | (simp only [List.length_drop, List.length_take]; rfl)) ?_; (with_reducible refine (spec_InstrText.calls k t229 t230 t231 t232 t233 t234 t235 _ A8.out).mono ?_); rintro e w27 ⟨rfl, hb⟩; refine ⟨_, rfl, ?_⟩; have n0_ := Aside0.mk (blk_below (g := gb227) (o := .cells #[.string a0_0, .int .i64 a0_1, .int .i64 a0_2, .int .i64 a0_3, .int .i64 a0_4] 31 (0, 0)) (by (with_reducible repeat (first | refine blk_drewN ?_ _ | refine blk_drew ?_ | refine blk_alloc ?_ _)); exact BK227.out) hb); have n1_ := Aside0.mk (below_step (by repeat (first | (with_reducible first | exact HB.out | apply below_alloc | apply pw_below_drewN | apply below_drew1 | refine below_set ?_ GE227.out) | exact HB.out)) hb); clear BK227; clear HB; have BK227 := n0_; have HB := n1_; clear n0_ n1_; (try clear hb); (try clear hb2); (try clear hk); (try clear hi); have hcz28_0 : w27.cell? ⟨gb227, 0, none⟩ = some (.string a0_0) := (blk_cell BK227.out 0).trans rfl; have hcz28_1 : w27.cell? ⟨gb227, 1, none⟩ = some (.int .i64 a0_1) := (blk_cell BK227.out 1).trans rfl; have hcz28_2 : w27.cell? ⟨gb227, 2, none⟩ = some (.int .i64 a0_2) := (blk_cell BK227.out 2).trans rfl; have hcz28_3 : w27.cell? ⟨gb227, 3, none⟩ = some (.int .i64 a0_3) := (blk_cell BK227.out 3).trans rfl; have hcz28_4 : w27.cell? ⟨gb227, 4, none⟩ = some (.int .i64 a0_4) := (blk_cell BK227.out 4).trans rfl; have hfz28_0 := blk_frozen BK227.out 0; have hfz28_1 := blk_frozen BK227.out 1; have hfz28_2 := blk_frozen BK227.out 2; have hfz28_3 := blk_frozen BK227.out 3; have hfz28_4 := blk_frozen BK227.out 4) | ((with_reducible refine gate_callee (f := 16) rfl ?_); refine goesL_ (some 21) rfl rfl Tryd.func16 (by kernel_rfl) rfl #[.agg #[.string a0_0, .int .i64 a0_1, .int .i64 a0_2, .int .i64 a0_3, .int .i64 a0_4]] rfl (by (try simp only [List.map_toArray, List.map_cons, List.map_nil]); first | done | rfl | (simp only [List.length_drop, List.length_take]; rfl)) ?_; (with_reducible refine (laws_toInstr.calls a0_0 a0_1 a0_2 a0_3 a0_4 t236 t237 t238 t239 t240 _ A9.out).mono ?_); rintro e w29 ⟨rfl, hb⟩; refine ⟨_, rfl, ?_⟩; have n0_ := Aside0.mk (blk_below (g := gb227) (o := .cells #[.string a0_0, .int .i64 a0_1, .int .i64 a0_2, .int .i64 a0_3, .int .i64 a0_4] 31 (0, 0)) (by (with_reducible repeat (first | refine blk_drewN ?_ _ | refine blk_drew ?_ | refine blk_alloc ?_ _)); exact BK227.out) hb); have n1_ := Aside0.mk (below_step (by repeat (first | (with_reducible first | exact HB.out | apply below_alloc | apply pw_below_drewN | apply below_drew1 | refine below_set ?_ GE227.out) | exact HB.out)) hb); clear BK227; clear HB; have BK227 := n0_; have HB := n1_; clear n0_ n1_; (try clear hb); (try clear hb2); (try clear hk); (try clear hi)) | ((with_reducible refine gate_callee (f := 17) rfl ?_); refine goesL_ (some 22) rfl rfl Tryd.func17 (by kernel_rfl) rfl #[.agg #[.string t236, .int .i64 t237, .int .i64 t238, .int .i64 t239, .int .i64 t240]] rfl (by (try simp only [List.map_toArray, List.map_cons, List.map_nil]); first | done | rfl | (simp only [List.length_drop, List.length_take]; rfl)) ?_; (with_reducible refine (impl_InstrText.calls k t236 t237 t238 t239 t240 t241 t242 _ A10.out).mono ?_); rintro e w30 ⟨rfl, hb⟩; refine ⟨_, rfl, ?_⟩; have n0_ := Aside0.mk (blk_below (g := gb227) (o := .cells #[.string a0_0, .int .i64 a0_1, .int .i64 a0_2, .int .i64 a0_3, .int .i64 a0_4] 31 (0, 0)) (by (with_reducible repeat (first | refine blk_drewN ?_ _ | refine blk_drew ?_ | refine blk_alloc ?_ _)); exact BK227.out) hb); have n1_ := Aside0.mk (below_step (by repeat (first | (with_reducible first | exact HB.out | apply below_alloc | apply pw_below_drewN | apply below_drew1 | refine below_set ?_ GE227.out) | exact HB.out)) hb); clear BK227; clear HB; have BK227 := n0_; have HB := n1_; clear n0_ n1_; (try clear hb); (try clear hb2); (try clear hk); (try clear hi)))
        go_ret
        exact ⟨by first | rfl | (simp [errW_none, errW_some] <;> rfl) | (simp [*, errW_none, errW_some] <;> rfl), by repeat (first | (with_reducible first | exact HB.out | apply below_alloc | apply pw_below_drewN | apply below_drew1 | refine below_set ?_ GE227.out) | exact HB.out)⟩
    · rw [if_neg c11] at H
      have c11b0 : (t241.toList == t234.toList) = false := beq_eq_false_iff_ne.mpr c11
      have c11b1 : (t241.toList != t234.toList) = true := bne_iff_ne.mpr c11
      exact absurd ((Option.some.inj H).trans hr) (by decide)

end Go.Proofs.YtjeklcgflocfoaaDoor.D
