/- Contracts: impl_Instr_word, impl_run. -/
import Derived.Test.YtaddadknmipfeaaFK
import Derived.Test.YtaddadknmipfeaaFSpecExApply
namespace Go.Proofs.Ytaddadknmipfeaa.F
open Go.RowKit Go.Proofs.YtaddadknmipfeaaW.PrintWords Go.Proofs.YtaddadknmipfeaaW.PrintLast Go.Proofs.YtaddadknmipfeaaW.PrintMore
attribute [local go_sem] max2_int min2_int max_two min_two max_three min_three max_four min_four   -- for this text's walks alone
set_option linter.unusedVariables false
set_option linter.unusedSimpArgs false

/-! ### impl_Instr_word: function 160 -/
def impl_Instr_word.j0 : Nat → Int → Int → Bool → ByteArray → Int → Int → Int → Int → Option (Int)
  | 0, _, _, _, _, _, _, _, _ => none
  | k + 1, x1, x2, x24, x787000, x787001, x787002, x787003, x787004 => if x24 = true then (if 0 ≤ 3 then (if 3 ≤ (x787000.size : Int) then ((impl_apply.f (x787000.extract 0 3) x1 x787004).bind fun t789 => (some t789)) else (none)) else (none)) else ((impl_apply.f x787000 x1 x2).bind fun t790 => (some t790))
def impl_Instr_word.f (k : Nat) (a0_0 : ByteArray) (a0_1 : Int) (a0_2 : Int) (a0_3 : Int) (a0_4 : Int) (a1 : Int) (a2 : Int) : Option (Int) := if a0_0.toList = ([115, 101, 116] : List UInt8) then (some a0_4) else (if a0_0.toList = ([109, 111, 118] : List UInt8) then (some a1) else (if a0_0.toList = ([108, 101, 97] : List UInt8) then ((impl_apply.f (⟨#[115, 104, 108]⟩ : ByteArray) a2 a0_4).bind fun t787 => ((impl_apply.f (⟨#[97, 100, 100]⟩ : ByteArray) a1 t787).bind fun t788 => (some t788))) else (if a0_0.toList = ([97, 100, 100, 105] : List UInt8) then (impl_Instr_word.j0 k a1 a2 (a0_0.toList == ([97, 100, 100, 105] : List UInt8)) a0_0 a0_1 a0_2 a0_3 a0_4) else (if a0_0.toList = ([97, 110, 100, 105] : List UInt8) then (impl_Instr_word.j0 k a1 a2 (a0_0.toList == ([97, 110, 100, 105] : List UInt8)) a0_0 a0_1 a0_2 a0_3 a0_4) else (if a0_0.toList = ([120, 111, 114, 105] : List UInt8) then (impl_Instr_word.j0 k a1 a2 (a0_0.toList == ([120, 111, 114, 105] : List UInt8)) a0_0 a0_1 a0_2 a0_3 a0_4) else (if a0_0.toList = ([115, 104, 108, 105] : List UInt8) then (impl_Instr_word.j0 k a1 a2 (a0_0.toList == ([115, 104, 108, 105] : List UInt8)) a0_0 a0_1 a0_2 a0_3 a0_4) else (impl_Instr_word.j0 k a1 a2 (a0_0.toList == ([115, 104, 114, 105] : List UInt8)) a0_0 a0_1 a0_2 a0_3 a0_4)))))))
theorem impl_Instr_word.mono_l : ∀ k, (∀ y0 y1 y2 y3 y4 y5 y6 y7, LeO (impl_Instr_word.j0 k y0 y1 y2 y3 y4 y5 y6 y7) (impl_Instr_word.j0 (k + 1) y0 y1 y2 y3 y4 y5 y6 y7))
  | 0 => fun _ _ _ _ _ _ _ _ r h => by simp [impl_Instr_word.j0] at h
  | k + 1 => by
    have ih0 := impl_Instr_word.mono_l k
    · intro y0 y1 y2 y3 y4 y5 y6 y7
      unfold impl_Instr_word.j0
      repeat' first
      | (with_reducible exact ih0 _ _ _ _ _ _ _ _)
      | (with_reducible exact LeO.refl _)
      | (with_reducible exact LeO.none _)
      | (with_reducible refine LeO.ite ?_ ?_)
      | (with_reducible refine LeO.bind ?_ (fun _ => ?_))
      | exact ih0 _ _ _ _ _ _ _ _
      | exact LeO.none _
      | refine LeO.ite ?_ ?_
      | refine LeO.bind ?_ (fun _ => ?_)
theorem impl_Instr_word.mono : ∀ a0 a1 a2 a3 a4 a5 a6 k, LeO (impl_Instr_word.f k a0 a1 a2 a3 a4 a5 a6) (impl_Instr_word.f (k + 1) a0 a1 a2 a3 a4 a5 a6) := by
  intro a0 a1 a2 a3 a4 a5 a6 k
  have ih0 := impl_Instr_word.mono_l k
  unfold impl_Instr_word.f
  repeat' first
      | (with_reducible exact ih0 _ _ _ _ _ _ _ _)
      | (with_reducible exact LeO.refl _)
      | (with_reducible exact LeO.none _)
      | (with_reducible refine LeO.ite ?_ ?_)
      | (with_reducible refine LeO.bind ?_ (fun _ => ?_))
      | exact ih0 _ _ _ _ _ _ _ _
      | exact LeO.none _
      | refine LeO.ite ?_ ?_
      | refine LeO.bind ?_ (fun _ => ?_)
set_option maxHeartbeats 8000000 in
set_option maxRecDepth 100000 in
theorem impl_Instr_word.calls (k : Nat) (a0_0 : ByteArray) (a0_1 : Int) (a0_2 : Int) (a0_3 : Int) (a0_4 : Int) (a1 : Int) (a2 : Int) (r : Int) (w : World) (h : impl_Instr_word.f k a0_0 a0_1 a0_2 a0_3 a0_4 a1 a2 = some r) :
    Calls Try.prog 160 #[.agg #[.string a0_0, .int .i64 a0_1, .int .i64 a0_2, .int .i64 a0_3, .int .i64 a0_4], .int .i64 a1, .int .i64 a2] w fun e w' => e = .returned (.int .i64 r) ∧ Below w.heap.size w w' := by
  have hu45 := Try.underlying45
  have HB := Aside0.mk (Below.refl w.heap.size w)
  have H : (if a0_0.toList = ([115, 101, 116] : List UInt8) then (some a0_4) else (if a0_0.toList = ([109, 111, 118] : List UInt8) then (some a1) else (if a0_0.toList = ([108, 101, 97] : List UInt8) then ((impl_apply.f (⟨#[115, 104, 108]⟩ : ByteArray) a2 a0_4).bind fun t787 => ((impl_apply.f (⟨#[97, 100, 100]⟩ : ByteArray) a1 t787).bind fun t788 => (some t788))) else (if a0_0.toList = ([97, 100, 100, 105] : List UInt8) then (impl_Instr_word.j0 k a1 a2 (a0_0.toList == ([97, 100, 100, 105] : List UInt8)) a0_0 a0_1 a0_2 a0_3 a0_4) else (if a0_0.toList = ([97, 110, 100, 105] : List UInt8) then (impl_Instr_word.j0 k a1 a2 (a0_0.toList == ([97, 110, 100, 105] : List UInt8)) a0_0 a0_1 a0_2 a0_3 a0_4) else (if a0_0.toList = ([120, 111, 114, 105] : List UInt8) then (impl_Instr_word.j0 k a1 a2 (a0_0.toList == ([120, 111, 114, 105] : List UInt8)) a0_0 a0_1 a0_2 a0_3 a0_4) else (if a0_0.toList = ([115, 104, 108, 105] : List UInt8) then (impl_Instr_word.j0 k a1 a2 (a0_0.toList == ([115, 104, 108, 105] : List UInt8)) a0_0 a0_1 a0_2 a0_3 a0_4) else (impl_Instr_word.j0 k a1 a2 (a0_0.toList == ([115, 104, 114, 105] : List UInt8)) a0_0 a0_1 a0_2 a0_3 a0_4)))))))) = some r := h
  clear h
  by_cases c4 : a0_0.toList = ([115, 101, 116] : List UInt8)
  · rw [if_pos c4] at H
    have c4b0 : (a0_0.toList == ([115, 101, 116] : List UInt8)) = true := beq_iff_eq.mpr c4
    have c4b1 : (a0_0.toList != ([115, 101, 116] : List UInt8)) = false := bne_eq_false_iff_eq.mpr c4
    clear c4
    obtain rfl := Option.some.inj H
    go_enter Try.func160, Try.ntmps160
    go_wp2_with (first | ((with_reducible refine gate_dst (N := 3) rfl ?_); refine box_event ?hg (N := 3) ?hd (cs := #[.string a0_0, .int .i64 a0_1, .int .i64 a0_2, .int .i64 a0_3, .int .i64 a0_4]) (t := 45) ?hr ?_; (case hd => rfl); (case hg => rfl); (case hr => first | (go_simp; done) | (go_simp; rfl)); intro gb786 hg w5 hbox hb; have n0_ := Aside0.mk (below_step (by repeat (first | (with_reducible first | exact HB.out | apply below_alloc | apply pw_below_drewN | apply below_drew1) | exact HB.out)) hb); have n1_ := Aside0.mk (hbox); have n2_ := Aside0.mk ((by rw [hg]; exact (below_size (by repeat (first | (with_reducible first | exact HB.out | apply below_alloc | apply pw_below_drewN | apply below_drew1) | exact HB.out))) : w.heap.size ≤ gb786)); have n3_ := Aside0.mk ((by rw [hg]; exact (below_size (by repeat (first | (with_reducible first | exact HB.out | apply below_alloc | apply pw_below_drewN | apply below_drew1) | exact HB.out))) : w.heap.size ≤ gb786)); clear HB; have HB := n0_; have BK786 := n1_; have GW786 := n2_; have GE786 := n3_; clear n0_ n1_ n2_ n3_; clear hb hbox hg; have hcz6_0 : w5.cell? ⟨gb786, 0, none⟩ = some (.string a0_0) := (blk_cell BK786.out 0).trans rfl; have hcz6_1 : w5.cell? ⟨gb786, 1, none⟩ = some (.int .i64 a0_1) := (blk_cell BK786.out 1).trans rfl; have hcz6_2 : w5.cell? ⟨gb786, 2, none⟩ = some (.int .i64 a0_2) := (blk_cell BK786.out 2).trans rfl; have hcz6_3 : w5.cell? ⟨gb786, 3, none⟩ = some (.int .i64 a0_3) := (blk_cell BK786.out 3).trans rfl; have hcz6_4 : w5.cell? ⟨gb786, 4, none⟩ = some (.int .i64 a0_4) := (blk_cell BK786.out 4).trans rfl; have hfz6_0 := blk_frozen BK786.out 0; have hfz6_1 := blk_frozen BK786.out 1; have hfz6_2 := blk_frozen BK786.out 2; have hfz6_3 := blk_frozen BK786.out 3; have hfz6_4 := blk_frozen BK786.out 4))
    repeat (go_quiet (first | ((with_reducible refine gate_dst (N := 3) rfl ?_); refine box_event ?hg (N := 3) ?hd (cs := #[.string a0_0, .int .i64 a0_1, .int .i64 a0_2, .int .i64 a0_3, .int .i64 a0_4]) (t := 45) ?hr ?_; (case hd => rfl); (case hg => rfl); (case hr => first | (go_simp; done) | (go_simp; rfl)); intro gb786 hg w5 hbox hb; have n0_ := Aside0.mk (below_step (by repeat (first | (with_reducible first | exact HB.out | apply below_alloc | apply pw_below_drewN | apply below_drew1) | exact HB.out)) hb); have n1_ := Aside0.mk (hbox); have n2_ := Aside0.mk ((by rw [hg]; exact (below_size (by repeat (first | (with_reducible first | exact HB.out | apply below_alloc | apply pw_below_drewN | apply below_drew1) | exact HB.out))) : w.heap.size ≤ gb786)); have n3_ := Aside0.mk ((by rw [hg]; exact (below_size (by repeat (first | (with_reducible first | exact HB.out | apply below_alloc | apply pw_below_drewN | apply below_drew1) | exact HB.out))) : w.heap.size ≤ gb786)); clear HB; have HB := n0_; have BK786 := n1_; have GW786 := n2_; have GE786 := n3_; clear n0_ n1_ n2_ n3_; clear hb hbox hg; have hcz6_0 : w5.cell? ⟨gb786, 0, none⟩ = some (.string a0_0) := (blk_cell BK786.out 0).trans rfl; have hcz6_1 : w5.cell? ⟨gb786, 1, none⟩ = some (.int .i64 a0_1) := (blk_cell BK786.out 1).trans rfl; have hcz6_2 : w5.cell? ⟨gb786, 2, none⟩ = some (.int .i64 a0_2) := (blk_cell BK786.out 2).trans rfl; have hcz6_3 : w5.cell? ⟨gb786, 3, none⟩ = some (.int .i64 a0_3) := (blk_cell BK786.out 3).trans rfl; have hcz6_4 : w5.cell? ⟨gb786, 4, none⟩ = some (.int .i64 a0_4) := (blk_cell BK786.out 4).trans rfl; have hfz6_0 := blk_frozen BK786.out 0; have hfz6_1 := blk_frozen BK786.out 1; have hfz6_2 := blk_frozen BK786.out 2; have hfz6_3 := blk_frozen BK786.out 3; have hfz6_4 := blk_frozen BK786.out 4)); try go_wp2_with (first | ((with_reducible refine gate_dst (N := 3) rfl ?_); refine box_event ?hg (N := 3) ?hd (cs := #[.string a0_0, .int .i64 a0_1, .int .i64 a0_2, .int .i64 a0_3, .int .i64 a0_4]) (t := 45) ?hr ?_; (case hd => rfl); (case hg => rfl); (case hr => first | (go_simp; done) | (go_simp; rfl)); intro gb786 hg w5 hbox hb; have n0_ := Aside0.mk (below_step (by repeat (first | (with_reducible first | exact HB.out | apply below_alloc | apply pw_below_drewN | apply below_drew1) | exact HB.out)) hb); have n1_ := Aside0.mk (hbox); have n2_ := Aside0.mk ((by rw [hg]; exact (below_size (by repeat (first | (with_reducible first | exact HB.out | apply below_alloc | apply pw_below_drewN | apply below_drew1) | exact HB.out))) : w.heap.size ≤ gb786)); have n3_ := Aside0.mk ((by rw [hg]; exact (below_size (by repeat (first | (with_reducible first | exact HB.out | apply below_alloc | apply pw_below_drewN | apply below_drew1) | exact HB.out))) : w.heap.size ≤ gb786)); clear HB; have HB := n0_; have BK786 := n1_; have GW786 := n2_; have GE786 := n3_; clear n0_ n1_ n2_ n3_; clear hb hbox hg; have hcz6_0 : w5.cell? ⟨gb786, 0, none⟩ = some (.string a0_0) := (blk_cell BK786.out 0).trans rfl; have hcz6_1 : w5.cell? ⟨gb786, 1, none⟩ = some (.int .i64 a0_1) := (blk_cell BK786.out 1).trans rfl; have hcz6_2 : w5.cell? ⟨gb786, 2, none⟩ = some (.int .i64 a0_2) := (blk_cell BK786.out 2).trans rfl; have hcz6_3 : w5.cell? ⟨gb786, 3, none⟩ = some (.int .i64 a0_3) := (blk_cell BK786.out 3).trans rfl; have hcz6_4 : w5.cell? ⟨gb786, 4, none⟩ = some (.int .i64 a0_4) := (blk_cell BK786.out 4).trans rfl; have hfz6_0 := blk_frozen BK786.out 0; have hfz6_1 := blk_frozen BK786.out 1; have hfz6_2 := blk_frozen BK786.out 2; have hfz6_3 := blk_frozen BK786.out 3; have hfz6_4 := blk_frozen BK786.out 4)))
    go_ret
    exact ⟨by first | rfl | (simp [errW_none, errW_some] <;> rfl) | (simp [*, errW_none, errW_some] <;> rfl), by repeat (first | (with_reducible first | exact HB.out | apply below_alloc | apply pw_below_drewN | apply below_drew1 | refine below_set ?_ GE786.out) | exact HB.out)⟩
  · rw [if_neg c4] at H
    have c4b0 : (a0_0.toList == ([115, 101, 116] : List UInt8)) = false := beq_eq_false_iff_ne.mpr c4
    have c4b1 : (a0_0.toList != ([115, 101, 116] : List UInt8)) = true := bne_iff_ne.mpr c4
    by_cases c7 : a0_0.toList = ([109, 111, 118] : List UInt8)
    · rw [if_pos c7] at H
      have c7b0 : (a0_0.toList == ([109, 111, 118] : List UInt8)) = true := beq_iff_eq.mpr c7
      have c7b1 : (a0_0.toList != ([109, 111, 118] : List UInt8)) = false := bne_eq_false_iff_eq.mpr c7
      clear c7
      obtain rfl := Option.some.inj H
      go_enter Try.func160, Try.ntmps160
      go_wp2_with (first | ((with_reducible refine gate_dst (N := 3) rfl ?_); refine box_event ?hg (N := 3) ?hd (cs := #[.string a0_0, .int .i64 a0_1, .int .i64 a0_2, .int .i64 a0_3, .int .i64 a0_4]) (t := 45) ?hr ?_; (case hd => rfl); (case hg => rfl); (case hr => first | (go_simp; done) | (go_simp; rfl)); intro gb786 hg w8 hbox hb; have n0_ := Aside0.mk (below_step (by repeat (first | (with_reducible first | exact HB.out | apply below_alloc | apply pw_below_drewN | apply below_drew1) | exact HB.out)) hb); have n1_ := Aside0.mk (hbox); have n2_ := Aside0.mk ((by rw [hg]; exact (below_size (by repeat (first | (with_reducible first | exact HB.out | apply below_alloc | apply pw_below_drewN | apply below_drew1) | exact HB.out))) : w.heap.size ≤ gb786)); have n3_ := Aside0.mk ((by rw [hg]; exact (below_size (by repeat (first | (with_reducible first | exact HB.out | apply below_alloc | apply pw_below_drewN | apply below_drew1) | exact HB.out))) : w.heap.size ≤ gb786)); clear HB; have HB := n0_; have BK786 := n1_; have GW786 := n2_; have GE786 := n3_; clear n0_ n1_ n2_ n3_; clear hb hbox hg; have hcz9_0 : w8.cell? ⟨gb786, 0, none⟩ = some (.string a0_0) := (blk_cell BK786.out 0).trans rfl; have hcz9_1 : w8.cell? ⟨gb786, 1, none⟩ = some (.int .i64 a0_1) := (blk_cell BK786.out 1).trans rfl; have hcz9_2 : w8.cell? ⟨gb786, 2, none⟩ = some (.int .i64 a0_2) := (blk_cell BK786.out 2).trans rfl; have hcz9_3 : w8.cell? ⟨gb786, 3, none⟩ = some (.int .i64 a0_3) := (blk_cell BK786.out 3).trans rfl; have hcz9_4 : w8.cell? ⟨gb786, 4, none⟩ = some (.int .i64 a0_4) := (blk_cell BK786.out 4).trans rfl; have hfz9_0 := blk_frozen BK786.out 0; have hfz9_1 := blk_frozen BK786.out 1; have hfz9_2 := blk_frozen BK786.out 2; have hfz9_3 := blk_frozen BK786.out 3; have hfz9_4 := blk_frozen BK786.out 4))
      repeat (go_quiet (first | ((with_reducible refine gate_dst (N := 3) rfl ?_); refine box_event ?hg (N := 3) ?hd (cs := #[.string a0_0, .int .i64 a0_1, .int .i64 a0_2, .int .i64 a0_3, .int .i64 a0_4]) (t := 45) ?hr ?_; (case hd => rfl); (case hg => rfl); (case hr => first | (go_simp; done) | (go_simp; rfl)); intro gb786 hg w8 hbox hb; have n0_ := Aside0.mk (below_step (by repeat (first | (with_reducible first | exact HB.out | apply below_alloc | apply pw_below_drewN | apply below_drew1) | exact HB.out)) hb); have n1_ := Aside0.mk (hbox); have n2_ := Aside0.mk ((by rw [hg]; exact (below_size (by repeat (first | (with_reducible first | exact HB.out | apply below_alloc | apply pw_below_drewN | apply below_drew1) | exact HB.out))) : w.heap.size ≤ gb786)); have n3_ := Aside0.mk ((by rw [hg]; exact (below_size (by repeat (first | (with_reducible first | exact HB.out | apply below_alloc | apply pw_below_drewN | apply below_drew1) | exact HB.out))) : w.heap.size ≤ gb786)); clear HB; have HB := n0_; have BK786 := n1_; have GW786 := n2_; have GE786 := n3_; clear n0_ n1_ n2_ n3_; clear hb hbox hg; have hcz9_0 : w8.cell? ⟨gb786, 0, none⟩ = some (.string a0_0) := (blk_cell BK786.out 0).trans rfl; have hcz9_1 : w8.cell? ⟨gb786, 1, none⟩ = some (.int .i64 a0_1) := (blk_cell BK786.out 1).trans rfl; have hcz9_2 : w8.cell? ⟨gb786, 2, none⟩ = some (.int .i64 a0_2) := (blk_cell BK786.out 2).trans rfl; have hcz9_3 : w8.cell? ⟨gb786, 3, none⟩ = some (.int .i64 a0_3) := (blk_cell BK786.out 3).trans rfl; have hcz9_4 : w8.cell? ⟨gb786, 4, none⟩ = some (.int .i64 a0_4) := (blk_cell BK786.out 4).trans rfl; have hfz9_0 := blk_frozen BK786.out 0; have hfz9_1 := blk_frozen BK786.out 1; have hfz9_2 := blk_frozen BK786.out 2; have hfz9_3 := blk_frozen BK786.out 3; have hfz9_4 := blk_frozen BK786.out 4)); try go_wp2_with (first | ((with_reducible refine gate_dst (N := 3) rfl ?_); refine box_event ?hg (N := 3) ?hd (cs := #[.string a0_0, .int .i64 a0_1, .int .i64 a0_2, .int .i64 a0_3, .int .i64 a0_4]) (t := 45) ?hr ?_; (case hd => rfl); (case hg => rfl); (case hr => first | (go_simp; done) | (go_simp; rfl)); intro gb786 hg w8 hbox hb; have n0_ := Aside0.mk (below_step (by repeat (first | (with_reducible first | exact HB.out | apply below_alloc | apply pw_below_drewN | apply below_drew1) | exact HB.out)) hb); have n1_ := Aside0.mk (hbox); have n2_ := Aside0.mk ((by rw [hg]; exact (below_size (by repeat (first | (with_reducible first | exact HB.out | apply below_alloc | apply pw_below_drewN | apply below_drew1) | exact HB.out))) : w.heap.size ≤ gb786)); have n3_ := Aside0.mk ((by rw [hg]; exact (below_size (by repeat (first | (with_reducible first | exact HB.out | apply below_alloc | apply pw_below_drewN | apply below_drew1) | exact HB.out))) : w.heap.size ≤ gb786)); clear HB; have HB := n0_; have BK786 := n1_; have GW786 := n2_; have GE786 := n3_; clear n0_ n1_ n2_ n3_; clear hb hbox hg; have hcz9_0 : w8.cell? ⟨gb786, 0, none⟩ = some (.string a0_0) := (blk_cell BK786.out 0).trans rfl; have hcz9_1 : w8.cell? ⟨gb786, 1, none⟩ = some (.int .i64 a0_1) := (blk_cell BK786.out 1).trans rfl; have hcz9_2 : w8.cell? ⟨gb786, 2, none⟩ = some (.int .i64 a0_2) := (blk_cell BK786.out 2).trans rfl; have hcz9_3 : w8.cell? ⟨gb786, 3, none⟩ = some (.int .i64 a0_3) := (blk_cell BK786.out 3).trans rfl; have hcz9_4 : w8.cell? ⟨gb786, 4, none⟩ = some (.int .i64 a0_4) := (blk_cell BK786.out 4).trans rfl; have hfz9_0 := blk_frozen BK786.out 0; have hfz9_1 := blk_frozen BK786.out 1; have hfz9_2 := blk_frozen BK786.out 2; have hfz9_3 := blk_frozen BK786.out 3; have hfz9_4 := blk_frozen BK786.out 4)))
      go_ret
      exact ⟨by first | rfl | (simp [errW_none, errW_some] <;> rfl) | (simp [*, errW_none, errW_some] <;> rfl), by repeat (first | (with_reducible first | exact HB.out | apply below_alloc | apply pw_below_drewN | apply below_drew1 | refine below_set ?_ GE786.out) | exact HB.out)⟩
    · rw [if_neg c7] at H
      have c7b0 : (a0_0.toList == ([109, 111, 118] : List UInt8)) = false := beq_eq_false_iff_ne.mpr c7
      have c7b1 : (a0_0.toList != ([109, 111, 118] : List UInt8)) = true := bne_iff_ne.mpr c7
      by_cases c10 : a0_0.toList = ([108, 101, 97] : List UInt8)
      · rw [if_pos c10] at H
        have c10b0 : (a0_0.toList == ([108, 101, 97] : List UInt8)) = true := beq_iff_eq.mpr c10
        have c10b1 : (a0_0.toList != ([108, 101, 97] : List UInt8)) = false := bne_eq_false_iff_eq.mpr c10
        clear c10
        replace H := Option.bind_eq_some_iff.mp H
        obtain ⟨t787, A110, H⟩ := H
        replace H : ((impl_apply.f (⟨#[97, 100, 100]⟩ : ByteArray) a1 t787).bind fun t788 => (some t788)) = some r := H
        have A11 := Aside0.mk A110
        clear A110
        replace H := Option.bind_eq_some_iff.mp H
        obtain ⟨t788, A120, H⟩ := H
        replace H : (some t788) = some r := H
        have A12 := Aside0.mk A120
        clear A120
        obtain rfl := Option.some.inj H
        go_enter Try.func160, Try.ntmps160
        go_wp2_with (first | ((with_reducible refine gate_dst (N := 3) rfl ?_); refine box_event ?hg (N := 3) ?hd (cs := #[.string a0_0, .int .i64 a0_1, .int .i64 a0_2, .int .i64 a0_3, .int .i64 a0_4]) (t := 45) ?hr ?_; (case hd => rfl); (case hg => rfl); (case hr => first | (go_simp; done) | (go_simp; rfl)); intro gb786 hg w13 hbox hb; have n0_ := Aside0.mk (below_step (by repeat (first | (with_reducible first | exact HB.out | apply below_alloc | apply pw_below_drewN | apply below_drew1) | exact HB.out)) hb); have n1_ := Aside0.mk (hbox); have n2_ := Aside0.mk ((by rw [hg]; exact (below_size (by repeat (first | (with_reducible first | exact HB.out | apply below_alloc | apply pw_below_drewN | apply below_drew1) | exact HB.out))) : w.heap.size ≤ gb786)); have n3_ := Aside0.mk ((by rw [hg]; exact (below_size (by repeat (first | (with_reducible first | exact HB.out | apply below_alloc | apply pw_below_drewN | apply below_drew1) | exact HB.out))) : w.heap.size ≤ gb786)); clear HB; have HB := n0_; have BK786 := n1_; have GW786 := n2_; have GE786 := n3_; clear n0_ n1_ n2_ n3_; clear hb hbox hg; have hcz14_0 : w13.cell? ⟨gb786, 0, none⟩ = some (.string a0_0) := (blk_cell BK786.out 0).trans rfl; have hcz14_1 : w13.cell? ⟨gb786, 1, none⟩ = some (.int .i64 a0_1) := (blk_cell BK786.out 1).trans rfl; have hcz14_2 : w13.cell? ⟨gb786, 2, none⟩ = some (.int .i64 a0_2) := (blk_cell BK786.out 2).trans rfl; have hcz14_3 : w13.cell? ⟨gb786, 3, none⟩ = some (.int .i64 a0_3) := (blk_cell BK786.out 3).trans rfl; have hcz14_4 : w13.cell? ⟨gb786, 4, none⟩ = some (.int .i64 a0_4) := (blk_cell BK786.out 4).trans rfl; have hfz14_0 := blk_frozen BK786.out 0; have hfz14_1 := blk_frozen BK786.out 1; have hfz14_2 := blk_frozen BK786.out 2; have hfz14_3 := blk_frozen BK786.out 3; have hfz14_4 := blk_frozen BK786.out 4) | (go_at_call 152; (with_reducible refine (impl_apply.calls (⟨#[115, 104, 108]⟩ : ByteArray) a2 a0_4 t787 _ A11.out).mono ?_); rintro e w' ⟨rfl, ⟨nd, rfl⟩⟩; (try first | exact ⟨rfl, _, World.drewN_drewN _ _ _⟩ | exact ⟨rfl, _, Eq.trans (World.drewN_drewN _ _ _) (congrArg (World.drewN _) (Nat.add_assoc _ _ _))⟩)) | (go_at_call 152; (with_reducible refine (impl_apply.calls (⟨#[97, 100, 100]⟩ : ByteArray) a1 t787 t788 _ A12.out).mono ?_); rintro e w' ⟨rfl, ⟨nd, rfl⟩⟩; (try first | exact ⟨rfl, _, World.drewN_drewN _ _ _⟩ | exact ⟨rfl, _, Eq.trans (World.drewN_drewN _ _ _) (congrArg (World.drewN _) (Nat.add_assoc _ _ _))⟩)))
        repeat (go_quiet (first | ((with_reducible refine gate_dst (N := 3) rfl ?_); refine box_event ?hg (N := 3) ?hd (cs := #[.string a0_0, .int .i64 a0_1, .int .i64 a0_2, .int .i64 a0_3, .int .i64 a0_4]) (t := 45) ?hr ?_; (case hd => rfl); (case hg => rfl); (case hr => first | (go_simp; done) | (go_simp; rfl)); intro gb786 hg w13 hbox hb; have n0_ := Aside0.mk (below_step (by repeat (first | (with_reducible first | exact HB.out | apply below_alloc | apply pw_below_drewN | apply below_drew1) | exact HB.out)) hb); have n1_ := Aside0.mk (hbox); have n2_ := Aside0.mk ((by rw [hg]; exact (below_size (by repeat (first | (with_reducible first | exact HB.out | apply below_alloc | apply pw_below_drewN | apply below_drew1) | exact HB.out))) : w.heap.size ≤ gb786)); have n3_ := Aside0.mk ((by rw [hg]; exact (below_size (by repeat (first | (with_reducible first | exact HB.out | apply below_alloc | apply pw_below_drewN | apply below_drew1) | exact HB.out))) : w.heap.size ≤ gb786)); clear HB; have HB := n0_; have BK786 := n1_; have GW786 := n2_; have GE786 := n3_; clear n0_ n1_ n2_ n3_; clear hb hbox hg; have hcz14_0 : w13.cell? ⟨gb786, 0, none⟩ = some (.string a0_0) := (blk_cell BK786.out 0).trans rfl; have hcz14_1 : w13.cell? ⟨gb786, 1, none⟩ = some (.int .i64 a0_1) := (blk_cell BK786.out 1).trans rfl; have hcz14_2 : w13.cell? ⟨gb786, 2, none⟩ = some (.int .i64 a0_2) := (blk_cell BK786.out 2).trans rfl; have hcz14_3 : w13.cell? ⟨gb786, 3, none⟩ = some (.int .i64 a0_3) := (blk_cell BK786.out 3).trans rfl; have hcz14_4 : w13.cell? ⟨gb786, 4, none⟩ = some (.int .i64 a0_4) := (blk_cell BK786.out 4).trans rfl; have hfz14_0 := blk_frozen BK786.out 0; have hfz14_1 := blk_frozen BK786.out 1; have hfz14_2 := blk_frozen BK786.out 2; have hfz14_3 := blk_frozen BK786.out 3; have hfz14_4 := blk_frozen BK786.out 4) | (go_at_call 152; (with_reducible refine (impl_apply.calls (⟨#[115, 104, 108]⟩ : ByteArray) a2 a0_4 t787 _ A11.out).mono ?_); rintro e w' ⟨rfl, ⟨nd, rfl⟩⟩; (try first | exact ⟨rfl, _, World.drewN_drewN _ _ _⟩ | exact ⟨rfl, _, Eq.trans (World.drewN_drewN _ _ _) (congrArg (World.drewN _) (Nat.add_assoc _ _ _))⟩)) | (go_at_call 152; (with_reducible refine (impl_apply.calls (⟨#[97, 100, 100]⟩ : ByteArray) a1 t787 t788 _ A12.out).mono ?_); rintro e w' ⟨rfl, ⟨nd, rfl⟩⟩; (try first | exact ⟨rfl, _, World.drewN_drewN _ _ _⟩ | exact ⟨rfl, _, Eq.trans (World.drewN_drewN _ _ _) (congrArg (World.drewN _) (Nat.add_assoc _ _ _))⟩))); try go_wp2_with (first | ((with_reducible refine gate_dst (N := 3) rfl ?_); refine box_event ?hg (N := 3) ?hd (cs := #[.string a0_0, .int .i64 a0_1, .int .i64 a0_2, .int .i64 a0_3, .int .i64 a0_4]) (t := 45) ?hr ?_; (case hd => rfl); (case hg => rfl); (case hr => first | (go_simp; done) | (go_simp; rfl)); intro gb786 hg w13 hbox hb; have n0_ := Aside0.mk (below_step (by repeat (first | (with_reducible first | exact HB.out | apply below_alloc | apply pw_below_drewN | apply below_drew1) | exact HB.out)) hb); have n1_ := Aside0.mk (hbox); have n2_ := Aside0.mk ((by rw [hg]; exact (below_size (by repeat (first | (with_reducible first | exact HB.out | apply below_alloc | apply pw_below_drewN | apply below_drew1) | exact HB.out))) : w.heap.size ≤ gb786)); have n3_ := Aside0.mk ((by rw [hg]; exact (below_size (by repeat (first | (with_reducible first | exact HB.out | apply below_alloc | apply pw_below_drewN | apply below_drew1) | exact HB.out))) : w.heap.size ≤ gb786)); clear HB; have HB := n0_; have BK786 := n1_; have GW786 := n2_; have GE786 := n3_; clear n0_ n1_ n2_ n3_; clear hb hbox hg; have hcz14_0 : w13.cell? ⟨gb786, 0, none⟩ = some (.string a0_0) := (blk_cell BK786.out 0).trans rfl; have hcz14_1 : w13.cell? ⟨gb786, 1, none⟩ = some (.int .i64 a0_1) := (blk_cell BK786.out 1).trans rfl; have hcz14_2 : w13.cell? ⟨gb786, 2, none⟩ = some (.int .i64 a0_2) := (blk_cell BK786.out 2).trans rfl; have hcz14_3 : w13.cell? ⟨gb786, 3, none⟩ = some (.int .i64 a0_3) := (blk_cell BK786.out 3).trans rfl; have hcz14_4 : w13.cell? ⟨gb786, 4, none⟩ = some (.int .i64 a0_4) := (blk_cell BK786.out 4).trans rfl; have hfz14_0 := blk_frozen BK786.out 0; have hfz14_1 := blk_frozen BK786.out 1; have hfz14_2 := blk_frozen BK786.out 2; have hfz14_3 := blk_frozen BK786.out 3; have hfz14_4 := blk_frozen BK786.out 4) | (go_at_call 152; (with_reducible refine (impl_apply.calls (⟨#[115, 104, 108]⟩ : ByteArray) a2 a0_4 t787 _ A11.out).mono ?_); rintro e w' ⟨rfl, ⟨nd, rfl⟩⟩; (try first | exact ⟨rfl, _, World.drewN_drewN _ _ _⟩ | exact ⟨rfl, _, Eq.trans (World.drewN_drewN _ _ _) (congrArg (World.drewN _) (Nat.add_assoc _ _ _))⟩)) | (go_at_call 152; (with_reducible refine (impl_apply.calls (⟨#[97, 100, 100]⟩ : ByteArray) a1 t787 t788 _ A12.out).mono ?_); rintro e w' ⟨rfl, ⟨nd, rfl⟩⟩; (try first | exact ⟨rfl, _, World.drewN_drewN _ _ _⟩ | exact ⟨rfl, _, Eq.trans (World.drewN_drewN _ _ _) (congrArg (World.drewN _) (Nat.add_assoc _ _ _))⟩))))
        go_ret
        exact ⟨by first | rfl | (simp [errW_none, errW_some] <;> rfl) | (simp [*, errW_none, errW_some] <;> rfl), by repeat (first | (with_reducible first | exact HB.out | apply below_alloc | apply pw_below_drewN | apply below_drew1 | refine below_set ?_ GE786.out) | exact HB.out)⟩
      · rw [if_neg c10] at H
        have c10b0 : (a0_0.toList == ([108, 101, 97] : List UInt8)) = false := beq_eq_false_iff_ne.mpr c10
        have c10b1 : (a0_0.toList != ([108, 101, 97] : List UInt8)) = true := bne_iff_ne.mpr c10
        have HC15 := Aside0.mk H
        clear H
        go_enter Try.func160, Try.ntmps160
        go_upto_if 24 with (first | ((with_reducible refine gate_dst (N := 3) rfl ?_); refine box_event ?hg (N := 3) ?hd (cs := #[.string a0_0, .int .i64 a0_1, .int .i64 a0_2, .int .i64 a0_3, .int .i64 a0_4]) (t := 45) ?hr ?_; (case hd => rfl); (case hg => rfl); (case hr => first | (go_simp; done) | (go_simp; rfl)); intro gb786 hg w16 hbox hb; have n0_ := Aside0.mk (below_step (by repeat (first | (with_reducible first | exact HB.out | apply below_alloc | apply pw_below_drewN | apply below_drew1) | exact HB.out)) hb); have n1_ := Aside0.mk (hbox); have n2_ := Aside0.mk ((by rw [hg]; exact (below_size (by repeat (first | (with_reducible first | exact HB.out | apply below_alloc | apply pw_below_drewN | apply below_drew1) | exact HB.out))) : w.heap.size ≤ gb786)); have n3_ := Aside0.mk ((by rw [hg]; exact (below_size (by repeat (first | (with_reducible first | exact HB.out | apply below_alloc | apply pw_below_drewN | apply below_drew1) | exact HB.out))) : w.heap.size ≤ gb786)); clear HB; have HB := n0_; have BK786 := n1_; have GW786 := n2_; have GE786 := n3_; clear n0_ n1_ n2_ n3_; clear hb hbox hg; have hcz17_0 : w16.cell? ⟨gb786, 0, none⟩ = some (.string a0_0) := (blk_cell BK786.out 0).trans rfl; have hcz17_1 : w16.cell? ⟨gb786, 1, none⟩ = some (.int .i64 a0_1) := (blk_cell BK786.out 1).trans rfl; have hcz17_2 : w16.cell? ⟨gb786, 2, none⟩ = some (.int .i64 a0_2) := (blk_cell BK786.out 2).trans rfl; have hcz17_3 : w16.cell? ⟨gb786, 3, none⟩ = some (.int .i64 a0_3) := (blk_cell BK786.out 3).trans rfl; have hcz17_4 : w16.cell? ⟨gb786, 4, none⟩ = some (.int .i64 a0_4) := (blk_cell BK786.out 4).trans rfl; have hfz17_0 := blk_frozen BK786.out 0; have hfz17_1 := blk_frozen BK786.out 1; have hfz17_2 := blk_frozen BK786.out 2; have hfz17_3 := blk_frozen BK786.out 3; have hfz17_4 := blk_frozen BK786.out 4))
        repeat (go_quiet (first | ((with_reducible refine gate_dst (N := 3) rfl ?_); refine box_event ?hg (N := 3) ?hd (cs := #[.string a0_0, .int .i64 a0_1, .int .i64 a0_2, .int .i64 a0_3, .int .i64 a0_4]) (t := 45) ?hr ?_; (case hd => rfl); (case hg => rfl); (case hr => first | (go_simp; done) | (go_simp; rfl)); intro gb786 hg w16 hbox hb; have n0_ := Aside0.mk (below_step (by repeat (first | (with_reducible first | exact HB.out | apply below_alloc | apply pw_below_drewN | apply below_drew1) | exact HB.out)) hb); have n1_ := Aside0.mk (hbox); have n2_ := Aside0.mk ((by rw [hg]; exact (below_size (by repeat (first | (with_reducible first | exact HB.out | apply below_alloc | apply pw_below_drewN | apply below_drew1) | exact HB.out))) : w.heap.size ≤ gb786)); have n3_ := Aside0.mk ((by rw [hg]; exact (below_size (by repeat (first | (with_reducible first | exact HB.out | apply below_alloc | apply pw_below_drewN | apply below_drew1) | exact HB.out))) : w.heap.size ≤ gb786)); clear HB; have HB := n0_; have BK786 := n1_; have GW786 := n2_; have GE786 := n3_; clear n0_ n1_ n2_ n3_; clear hb hbox hg; have hcz17_0 : w16.cell? ⟨gb786, 0, none⟩ = some (.string a0_0) := (blk_cell BK786.out 0).trans rfl; have hcz17_1 : w16.cell? ⟨gb786, 1, none⟩ = some (.int .i64 a0_1) := (blk_cell BK786.out 1).trans rfl; have hcz17_2 : w16.cell? ⟨gb786, 2, none⟩ = some (.int .i64 a0_2) := (blk_cell BK786.out 2).trans rfl; have hcz17_3 : w16.cell? ⟨gb786, 3, none⟩ = some (.int .i64 a0_3) := (blk_cell BK786.out 3).trans rfl; have hcz17_4 : w16.cell? ⟨gb786, 4, none⟩ = some (.int .i64 a0_4) := (blk_cell BK786.out 4).trans rfl; have hfz17_0 := blk_frozen BK786.out 0; have hfz17_1 := blk_frozen BK786.out 1; have hfz17_2 := blk_frozen BK786.out 2; have hfz17_3 := blk_frozen BK786.out 3; have hfz17_4 := blk_frozen BK786.out 4)); go_upto_if 24 with (first | ((with_reducible refine gate_dst (N := 3) rfl ?_); refine box_event ?hg (N := 3) ?hd (cs := #[.string a0_0, .int .i64 a0_1, .int .i64 a0_2, .int .i64 a0_3, .int .i64 a0_4]) (t := 45) ?hr ?_; (case hd => rfl); (case hg => rfl); (case hr => first | (go_simp; done) | (go_simp; rfl)); intro gb786 hg w16 hbox hb; have n0_ := Aside0.mk (below_step (by repeat (first | (with_reducible first | exact HB.out | apply below_alloc | apply pw_below_drewN | apply below_drew1) | exact HB.out)) hb); have n1_ := Aside0.mk (hbox); have n2_ := Aside0.mk ((by rw [hg]; exact (below_size (by repeat (first | (with_reducible first | exact HB.out | apply below_alloc | apply pw_below_drewN | apply below_drew1) | exact HB.out))) : w.heap.size ≤ gb786)); have n3_ := Aside0.mk ((by rw [hg]; exact (below_size (by repeat (first | (with_reducible first | exact HB.out | apply below_alloc | apply pw_below_drewN | apply below_drew1) | exact HB.out))) : w.heap.size ≤ gb786)); clear HB; have HB := n0_; have BK786 := n1_; have GW786 := n2_; have GE786 := n3_; clear n0_ n1_ n2_ n3_; clear hb hbox hg; have hcz17_0 : w16.cell? ⟨gb786, 0, none⟩ = some (.string a0_0) := (blk_cell BK786.out 0).trans rfl; have hcz17_1 : w16.cell? ⟨gb786, 1, none⟩ = some (.int .i64 a0_1) := (blk_cell BK786.out 1).trans rfl; have hcz17_2 : w16.cell? ⟨gb786, 2, none⟩ = some (.int .i64 a0_2) := (blk_cell BK786.out 2).trans rfl; have hcz17_3 : w16.cell? ⟨gb786, 3, none⟩ = some (.int .i64 a0_3) := (blk_cell BK786.out 3).trans rfl; have hcz17_4 : w16.cell? ⟨gb786, 4, none⟩ = some (.int .i64 a0_4) := (blk_cell BK786.out 4).trans rfl; have hfz17_0 := blk_frozen BK786.out 0; have hfz17_1 := blk_frozen BK786.out 1; have hfz17_2 := blk_frozen BK786.out 2; have hfz17_3 := blk_frozen BK786.out 3; have hfz17_4 := blk_frozen BK786.out 4)))
        (try simp only [Act.put, List.setIfInBounds_toArray, List.set_cons_zero, List.set_cons_succ])
        go_cut [24] (fun v24 wc => ∃ (kq : Nat) (x24_14 : Bool), v24 = .bool x24_14 ∧ Aside0 (impl_Instr_word.j0 kq a1 a2 x24_14 a0_0 a0_1 a0_2 a0_3 a0_4 = some r) ∧ Aside0 (kq ≤ k) ∧ Aside0 (wc.heap[gb786]? = some (.cells #[.string a0_0, .int .i64 a0_1, .int .i64 a0_2, .int .i64 a0_3, .int .i64 a0_4] 45 (0, 0))) ∧ Aside0 (Below w.heap.size w wc))
        case first =>
          have H := HC15.out
          clear HC15
          by_cases c18 : a0_0.toList = ([97, 100, 100, 105] : List UInt8)
          · rw [if_pos c18] at H
            have c18b0 : (a0_0.toList == ([97, 100, 100, 105] : List UInt8)) = true := beq_iff_eq.mpr c18
            have c18b1 : (a0_0.toList != ([97, 100, 100, 105] : List UInt8)) = false := bne_eq_false_iff_eq.mpr c18
            clear c18
            (first | rw [c18b0] | (simp only [i64_w, i32_w]; rw [c18b0]) | skip)
            have H' := Aside0.mk H
            clear H
            go_wp2
            repeat (go_quiet (fail); try go_wp2)
            go_meet
            case rel => exact ⟨_, ((a0_0.toList == ([97, 100, 100, 105] : List UInt8))), (by first | rfl | (simp; done) | (simp [*]; done)), H', ⟨by first | omega | exact Nat.le_refl _⟩, ⟨by (with_reducible repeat (first | refine blk_drewN ?_ _ | refine blk_drew ?_ | refine blk_alloc ?_ _)); exact BK786.out⟩, ⟨by repeat (first | (with_reducible first | exact HB.out | apply below_alloc | apply pw_below_drewN | apply below_drew1 | refine below_set ?_ GE786.out) | exact HB.out)⟩⟩
          · rw [if_neg c18] at H
            have c18b0 : (a0_0.toList == ([97, 100, 100, 105] : List UInt8)) = false := beq_eq_false_iff_ne.mpr c18
            have c18b1 : (a0_0.toList != ([97, 100, 100, 105] : List UInt8)) = true := bne_iff_ne.mpr c18
            (first | rw [c18b0] | (simp only [i64_w, i32_w]; rw [c18b0]) | skip)
            by_cases c19 : a0_0.toList = ([97, 110, 100, 105] : List UInt8)
            · rw [if_pos c19] at H
              have c19b0 : (a0_0.toList == ([97, 110, 100, 105] : List UInt8)) = true := beq_iff_eq.mpr c19
              have c19b1 : (a0_0.toList != ([97, 110, 100, 105] : List UInt8)) = false := bne_eq_false_iff_eq.mpr c19
              clear c19
              have H' := Aside0.mk H
              clear H
              go_wp2
              repeat (go_quiet (fail); try go_wp2)
              go_meet
              case rel => exact ⟨_, ((a0_0.toList == ([97, 110, 100, 105] : List UInt8))), (by first | rfl | (simp; done) | (simp [*]; done)), H', ⟨by first | omega | exact Nat.le_refl _⟩, ⟨by (with_reducible repeat (first | refine blk_drewN ?_ _ | refine blk_drew ?_ | refine blk_alloc ?_ _)); exact BK786.out⟩, ⟨by repeat (first | (with_reducible first | exact HB.out | apply below_alloc | apply pw_below_drewN | apply below_drew1 | refine below_set ?_ GE786.out) | exact HB.out)⟩⟩
            · rw [if_neg c19] at H
              have c19b0 : (a0_0.toList == ([97, 110, 100, 105] : List UInt8)) = false := beq_eq_false_iff_ne.mpr c19
              have c19b1 : (a0_0.toList != ([97, 110, 100, 105] : List UInt8)) = true := bne_iff_ne.mpr c19
              by_cases c20 : a0_0.toList = ([120, 111, 114, 105] : List UInt8)
              · rw [if_pos c20] at H
                have c20b0 : (a0_0.toList == ([120, 111, 114, 105] : List UInt8)) = true := beq_iff_eq.mpr c20
                have c20b1 : (a0_0.toList != ([120, 111, 114, 105] : List UInt8)) = false := bne_eq_false_iff_eq.mpr c20
                clear c20
                have H' := Aside0.mk H
                clear H
                go_wp2
                repeat (go_quiet (fail); try go_wp2)
                go_meet
                case rel => exact ⟨_, ((a0_0.toList == ([120, 111, 114, 105] : List UInt8))), (by first | rfl | (simp; done) | (simp [*]; done)), H', ⟨by first | omega | exact Nat.le_refl _⟩, ⟨by (with_reducible repeat (first | refine blk_drewN ?_ _ | refine blk_drew ?_ | refine blk_alloc ?_ _)); exact BK786.out⟩, ⟨by repeat (first | (with_reducible first | exact HB.out | apply below_alloc | apply pw_below_drewN | apply below_drew1 | refine below_set ?_ GE786.out) | exact HB.out)⟩⟩
              · rw [if_neg c20] at H
                have c20b0 : (a0_0.toList == ([120, 111, 114, 105] : List UInt8)) = false := beq_eq_false_iff_ne.mpr c20
                have c20b1 : (a0_0.toList != ([120, 111, 114, 105] : List UInt8)) = true := bne_iff_ne.mpr c20
                by_cases c21 : a0_0.toList = ([115, 104, 108, 105] : List UInt8)
                · rw [if_pos c21] at H
                  have c21b0 : (a0_0.toList == ([115, 104, 108, 105] : List UInt8)) = true := beq_iff_eq.mpr c21
                  have c21b1 : (a0_0.toList != ([115, 104, 108, 105] : List UInt8)) = false := bne_eq_false_iff_eq.mpr c21
                  clear c21
                  have H' := Aside0.mk H
                  clear H
                  go_wp2
                  repeat (go_quiet (fail); try go_wp2)
                  go_meet
                  case rel => exact ⟨_, ((a0_0.toList == ([115, 104, 108, 105] : List UInt8))), (by first | rfl | (simp; done) | (simp [*]; done)), H', ⟨by first | omega | exact Nat.le_refl _⟩, ⟨by (with_reducible repeat (first | refine blk_drewN ?_ _ | refine blk_drew ?_ | refine blk_alloc ?_ _)); exact BK786.out⟩, ⟨by repeat (first | (with_reducible first | exact HB.out | apply below_alloc | apply pw_below_drewN | apply below_drew1 | refine below_set ?_ GE786.out) | exact HB.out)⟩⟩
                · rw [if_neg c21] at H
                  have c21b0 : (a0_0.toList == ([115, 104, 108, 105] : List UInt8)) = false := beq_eq_false_iff_ne.mpr c21
                  have c21b1 : (a0_0.toList != ([115, 104, 108, 105] : List UInt8)) = true := bne_iff_ne.mpr c21
                  have H' := Aside0.mk H
                  clear H
                  go_wp2
                  repeat (go_quiet (fail); try go_wp2)
                  go_meet
                  case rel => exact ⟨_, ((a0_0.toList == ([115, 104, 114, 105] : List UInt8))), (by first | rfl | (simp; done) | (simp [*]; done)), H', ⟨by first | omega | exact Nat.le_refl _⟩, ⟨by (with_reducible repeat (first | refine blk_drewN ?_ _ | refine blk_drew ?_ | refine blk_alloc ?_ _)); exact BK786.out⟩, ⟨by repeat (first | (with_reducible first | exact HB.out | apply below_alloc | apply pw_below_drewN | apply below_drew1 | refine below_set ?_ GE786.out) | exact HB.out)⟩⟩
        case rest =>
          clear HC15
          try clear c1
          try clear c2
          try clear p2
          try clear c4
          try clear c4b0
          try clear c4b1
          try clear c7
          try clear c7b0
          try clear c7b1
          try clear c10
          try clear c10b0
          try clear c10b1
          try clear c16
          try clear c18
          try clear c18b0
          try clear c18b1
          try clear c19
          try clear c19b0
          try clear c19b1
          try clear c20
          try clear c20b0
          try clear c20b1
          try clear c21
          try clear c21b0
          try clear c21b1
          try clear hcz14_0
          try clear hcz14_1
          try clear hcz14_2
          try clear hcz14_3
          try clear hcz14_4
          try clear hcz17_0
          try clear hcz17_1
          try clear hcz17_2
          try clear hcz17_3
          try clear hcz17_4
          try clear hcz6_0
          try clear hcz6_1
          try clear hcz6_2
          try clear hcz6_3
          try clear hcz6_4
          try clear hcz9_0
          try clear hcz9_1
          try clear hcz9_2
          try clear hcz9_3
          try clear hcz9_4
          try clear hfz14_0
          try clear hfz14_1
          try clear hfz14_2
          try clear hfz14_3
          try clear hfz14_4
          try clear hfz17_0
          try clear hfz17_1
          try clear hfz17_2
          try clear hfz17_3
          try clear hfz17_4
          try clear hfz6_0
          try clear hfz6_1
          try clear hfz6_2
          try clear hfz6_3
          try clear hfz6_4
          try clear hfz9_0
          try clear hfz9_1
          try clear hfz9_2
          try clear hfz9_3
          try clear hfz9_4
          obtain ⟨kq, x24_14, rfl, HA, HJ14, BK786, HB⟩ := hcut
          cases kq with
          | zero => exact absurd HA.out (by simp [impl_Instr_word.j0])
          | succ kj14 =>
            have H := HA.out
            clear HA
            simp only [impl_Instr_word.j0] at H
            by_cases c22 : x24_14 = true
            · subst c22
              have H1 : (if 0 ≤ 3 then (if 3 ≤ (a0_0.size : Int) then ((impl_apply.f (a0_0.extract 0 3) a1 a0_4).bind fun t789 => (some t789)) else (none)) else (none)) = some r := by rw [if_pos rfl] at H; exact H
              clear H
              have H := H1
              clear H1
              by_cases c23 : 0 ≤ 3
              · rw [if_pos c23] at H
                have c23b0 := eq_true c23
                have c23b1 : decide (0 ≤ 3) = true := decide_eq_true c23
                clear c23
                by_cases c24 : 3 ≤ (a0_0.size : Int)
                · rw [if_pos c24] at H
                  have c24b0 := eq_true c24
                  have c24b1 : decide (3 ≤ (a0_0.size : Int)) = true := decide_eq_true c24
                  clear c24
                  replace H := Option.bind_eq_some_iff.mp H
                  obtain ⟨t789, A250, H⟩ := H
                  replace H : (some t789) = some r := H
                  have A25 := Aside0.mk A250
                  clear A250
                  obtain rfl := Option.some.inj H
                  have hcz26_0 : wc.cell? ⟨gb786, 0, none⟩ = some (.string a0_0) := (blk_cell BK786.out 0).trans rfl
                  have hcz26_1 : wc.cell? ⟨gb786, 1, none⟩ = some (.int .i64 a0_1) := (blk_cell BK786.out 1).trans rfl
                  have hcz26_2 : wc.cell? ⟨gb786, 2, none⟩ = some (.int .i64 a0_2) := (blk_cell BK786.out 2).trans rfl
                  have hcz26_3 : wc.cell? ⟨gb786, 3, none⟩ = some (.int .i64 a0_3) := (blk_cell BK786.out 3).trans rfl
                  have hcz26_4 : wc.cell? ⟨gb786, 4, none⟩ = some (.int .i64 a0_4) := (blk_cell BK786.out 4).trans rfl
                  have hfz26_0 := blk_frozen BK786.out 0
                  have hfz26_1 := blk_frozen BK786.out 1
                  have hfz26_2 := blk_frozen BK786.out 2
                  have hfz26_3 := blk_frozen BK786.out 3
                  have hfz26_4 := blk_frozen BK786.out 4
                  go_wp2_with (first | (go_at_call 152; (with_reducible refine (impl_apply.calls (a0_0.extract 0 3) a1 a0_4 t789 _ A25.out).mono ?_); rintro e w' ⟨rfl, ⟨nd, rfl⟩⟩; (try first | exact ⟨rfl, _, World.drewN_drewN _ _ _⟩ | exact ⟨rfl, _, Eq.trans (World.drewN_drewN _ _ _) (congrArg (World.drewN _) (Nat.add_assoc _ _ _))⟩)))
                  repeat (go_quiet (first | (go_at_call 152; (with_reducible refine (impl_apply.calls (a0_0.extract 0 3) a1 a0_4 t789 _ A25.out).mono ?_); rintro e w' ⟨rfl, ⟨nd, rfl⟩⟩; (try first | exact ⟨rfl, _, World.drewN_drewN _ _ _⟩ | exact ⟨rfl, _, Eq.trans (World.drewN_drewN _ _ _) (congrArg (World.drewN _) (Nat.add_assoc _ _ _))⟩))); try go_wp2_with (first | (go_at_call 152; (with_reducible refine (impl_apply.calls (a0_0.extract 0 3) a1 a0_4 t789 _ A25.out).mono ?_); rintro e w' ⟨rfl, ⟨nd, rfl⟩⟩; (try first | exact ⟨rfl, _, World.drewN_drewN _ _ _⟩ | exact ⟨rfl, _, Eq.trans (World.drewN_drewN _ _ _) (congrArg (World.drewN _) (Nat.add_assoc _ _ _))⟩))))
                  go_ret
                  exact ⟨by first | rfl | (simp [errW_none, errW_some] <;> rfl) | (simp [*, errW_none, errW_some] <;> rfl), by repeat (first | (with_reducible first | exact HB.out | apply below_alloc | apply pw_below_drewN | apply below_drew1 | refine below_set ?_ GE786.out) | exact HB.out)⟩
                · rw [if_neg c24] at H
                  exact absurd H (by simp)
              · rw [if_neg c23] at H
                exact absurd H (by simp)
            · replace c22 := Bool.eq_false_iff.mpr c22
              subst c22
              have H1 : ((impl_apply.f a0_0 a1 a2).bind fun t790 => (some t790)) = some r := by rw [if_neg (show ¬ (false = true) by decide)] at H; exact H
              clear H
              have H := H1
              clear H1
              replace H := Option.bind_eq_some_iff.mp H
              obtain ⟨t790, A270, H⟩ := H
              replace H : (some t790) = some r := H
              have A27 := Aside0.mk A270
              clear A270
              obtain rfl := Option.some.inj H
              have hcz28_0 : wc.cell? ⟨gb786, 0, none⟩ = some (.string a0_0) := (blk_cell BK786.out 0).trans rfl
              have hcz28_1 : wc.cell? ⟨gb786, 1, none⟩ = some (.int .i64 a0_1) := (blk_cell BK786.out 1).trans rfl
              have hcz28_2 : wc.cell? ⟨gb786, 2, none⟩ = some (.int .i64 a0_2) := (blk_cell BK786.out 2).trans rfl
              have hcz28_3 : wc.cell? ⟨gb786, 3, none⟩ = some (.int .i64 a0_3) := (blk_cell BK786.out 3).trans rfl
              have hcz28_4 : wc.cell? ⟨gb786, 4, none⟩ = some (.int .i64 a0_4) := (blk_cell BK786.out 4).trans rfl
              have hfz28_0 := blk_frozen BK786.out 0
              have hfz28_1 := blk_frozen BK786.out 1
              have hfz28_2 := blk_frozen BK786.out 2
              have hfz28_3 := blk_frozen BK786.out 3
              have hfz28_4 := blk_frozen BK786.out 4
              go_wp2_with (first | (go_at_call 152; (with_reducible refine (impl_apply.calls a0_0 a1 a2 t790 _ A27.out).mono ?_); rintro e w' ⟨rfl, ⟨nd, rfl⟩⟩; (try first | exact ⟨rfl, _, World.drewN_drewN _ _ _⟩ | exact ⟨rfl, _, Eq.trans (World.drewN_drewN _ _ _) (congrArg (World.drewN _) (Nat.add_assoc _ _ _))⟩)))
              repeat (go_quiet (first | (go_at_call 152; (with_reducible refine (impl_apply.calls a0_0 a1 a2 t790 _ A27.out).mono ?_); rintro e w' ⟨rfl, ⟨nd, rfl⟩⟩; (try first | exact ⟨rfl, _, World.drewN_drewN _ _ _⟩ | exact ⟨rfl, _, Eq.trans (World.drewN_drewN _ _ _) (congrArg (World.drewN _) (Nat.add_assoc _ _ _))⟩))); try go_wp2_with (first | (go_at_call 152; (with_reducible refine (impl_apply.calls a0_0 a1 a2 t790 _ A27.out).mono ?_); rintro e w' ⟨rfl, ⟨nd, rfl⟩⟩; (try first | exact ⟨rfl, _, World.drewN_drewN _ _ _⟩ | exact ⟨rfl, _, Eq.trans (World.drewN_drewN _ _ _) (congrArg (World.drewN _) (Nat.add_assoc _ _ _))⟩))))
              go_ret
              exact ⟨by first | rfl | (simp [errW_none, errW_some] <;> rfl) | (simp [*, errW_none, errW_some] <;> rfl), by repeat (first | (with_reducible first | exact HB.out | apply below_alloc | apply pw_below_drewN | apply below_drew1 | refine below_set ?_ GE786.out) | exact HB.out)⟩

/-! ### impl_run: function 121 -/
def impl_run.l0 : Nat → List Int → List (S45) → Int → Int → Option (List Int)
  | 0, _, _, _, _ => none
  | k + 1, x1, x6, x7, x8 => if x8 < x7 then (if 0 ≤ x8 then (if x8 < (x6.length : Int) then (if 0 ≤ ((rd_T45 x6 x8).f2) then (if ((rd_T45 x6 x8).f2) < (x1.length : Int) then (if 0 ≤ ((rd_T45 x6 x8).f3) then (if ((rd_T45 x6 x8).f3) < (x1.length : Int) then ((impl_Instr_word.f k ((rd_T45 x6 x8).f0) ((rd_T45 x6 x8).f1) ((rd_T45 x6 x8).f2) ((rd_T45 x6 x8).f3) ((rd_T45 x6 x8).f4) (rd x1 ((rd_T45 x6 x8).f2)) (rd x1 ((rd_T45 x6 x8).f3))).bind fun t795 => (if 0 ≤ ((rd_T45 x6 x8).f1) then (if ((rd_T45 x6 x8).f1) < (x1.length : Int) then (impl_run.l0 k (x1.set (((rd_T45 x6 x8).f1) : Int).toNat t795) x6 x7 (wrap64 (x8 + 1))) else (none)) else (none))) else (none)) else (none)) else (none)) else (none)) else (none)) else (none)) else (some x1)
def impl_run.f (k : Nat) (l0 : List (S45)) (l1 : List Int) : Option (List Int) := impl_run.l0 k l1 l0 (l0.length : Int) 0
theorem impl_run.mono_l : ∀ k, (∀ y0 y1 y2 y3, LeO (impl_run.l0 k y0 y1 y2 y3) (impl_run.l0 (k + 1) y0 y1 y2 y3))
  | 0 => fun _ _ _ _ r h => by simp [impl_run.l0] at h
  | k + 1 => by
    have ih0 := impl_run.mono_l k
    · intro y0 y1 y2 y3
      unfold impl_run.l0
      repeat' first
      | (with_reducible exact ih0 _ _ _ _)
      | (with_reducible exact impl_Instr_word.mono _ _ _ _ _ _ _ _)
      | (with_reducible exact LeO.refl _)
      | (with_reducible exact LeO.none _)
      | (with_reducible refine LeO.ite ?_ ?_)
      | (with_reducible refine LeO.bind ?_ (fun _ => ?_))
      | exact ih0 _ _ _ _
      | exact impl_Instr_word.mono _ _ _ _ _ _ _ _
      | exact LeO.none _
      | refine LeO.ite ?_ ?_
      | refine LeO.bind ?_ (fun _ => ?_)
theorem impl_run.mono : ∀ a0 a1 k, LeO (impl_run.f k a0 a1) (impl_run.f (k + 1) a0 a1) := by
  intro a0 a1 k
  have ih0 := impl_run.mono_l k
  unfold impl_run.f
  repeat' first
      | (with_reducible exact ih0 _ _ _ _)
      | (with_reducible exact impl_Instr_word.mono _ _ _ _ _ _ _ _)
      | (with_reducible exact LeO.refl _)
      | (with_reducible exact LeO.none _)
      | (with_reducible refine LeO.ite ?_ ?_)
      | (with_reducible refine LeO.bind ?_ (fun _ => ?_))
      | exact ih0 _ _ _ _
      | exact impl_Instr_word.mono _ _ _ _ _ _ _ _
      | exact LeO.none _
      | refine LeO.ite ?_ ?_
      | refine LeO.bind ?_ (fun _ => ?_)
def impl_run.T3 : Bool × List (List Nat × List Nat) := (true, [([], []), ([], []), ([1], [1]), ([], []), ([], []), ([], []), ([5], [5]), ([4, 6], [4, 6]), ([7], [7]), ([], []), ([], []), ([10], [10]), ([9, 11], [9, 11]), ([12], [12]), ([3, 8, 13], [3, 8, 13]), ([0, 2, 0, 1, 2, 3, 4, 5, 6, 7, 8, 9, 10, 11, 12, 13, 14], [0, 2]), ([15, 14, 14, 0, 1, 2, 3, 4, 5, 6, 7, 8, 9, 10, 11, 12, 13, 14], [14, 15])])
def impl_run.B3 : List Nat := [0, 0, 2, 0, 0, 0, 32, 112, 240, 0, 0, 1024, 3584, 7680, 16376, 32767, 65535]
theorem impl_run.tab3 : rtab .any (opsOf Try.f121 3) = impl_run.T3 := by kernel_rfl
theorem impl_run.bits3 : waitsOk impl_run.T3.2 impl_run.B3 = true := by kernel_rfl
set_option maxHeartbeats 8000000 in
set_option maxRecDepth 100000 in
theorem impl_run.calls (k : Nat) (A0 : Option Addr) (c0 : Nat) (l0 : List (S45)) (P1_ : Nat → Prop) (u9000_ : Value) (l1 : List Int) (r : List Int) (w0 w : World) (hB : Below w0.heap.size w0 w) (hr0 : ∀ W_, Kept w W_ (fun k_ => P1_ k_) → Kd.C k45 W_ A0 l0.length l0) (hc0 : l0.length ≤ c0) (ho1 : Kd.R (Kd.int .i64) 3 w w0.heap.size P1_ u9000_ l1) (h : impl_run.f k l0 l1 = some r) :
    Calls Try.prog 121 #[.slice A0 l0.length c0, u9000_] w fun e w' => e = .returned (.tuple #[]) ∧ Kd.R (Kd.int .i64) 3 w' w0.heap.size (fun k_ => (P1_ k_ ∨ w.heap.size ≤ k_)) u9000_ r ∧ Below w0.heap.size w0 w' ∧ Kept w w' (fun k_ => P1_ k_) := by
  have hu45 := Try.underlying45
  have HR0 := Aside0.mk hr0
  have HC0 := Aside0.mk hc0
  clear hr0 hc0
  have HO1 := Aside0.mk (show Kd.R (Kd.int .i64) 3 w w0.heap.size (fun k_ => (P1_ k_ ∨ w.heap.size ≤ k_)) u9000_ l1 from Kd.R_mono ho1 (fun k_ hk => (.inl hk)))
  have HK := Aside0.mk (Kept.refl w (fun k_ => P1_ k_))
  have HW0 := Aside0.mk hB.size
  have HB := Aside0.mk hB
  clear hB
  have H : (impl_run.l0 k l1 l0 (l0.length : Int) 0) = some r := h
  clear h
  have H' := Aside0.mk H
  clear H
  go_enter Try.func121, Try.ntmps121
  go_wp2
  go_loopg [8] k (fun kq v8 w' => ∃ (x1_1 : List Int) (x8_1 : Int), v8 = .int .i64 x8_1 ∧ Aside0 (impl_run.l0 kq x1_1 l0 (l0.length : Int) x8_1 = some r) ∧ Aside0 (kq ≤ k) ∧ Aside0 (Kd.R (Kd.int .i64) 3 w' w0.heap.size (fun k_ => (P1_ k_ ∨ w.heap.size ≤ k_)) u9000_ x1_1) ∧ Aside0 (Kept w w' (fun k_ => P1_ k_)) ∧ Aside0 (Below w0.heap.size w0 w'))
  case atStart => exact ⟨(l1), (0), (by first | rfl | (simp; done) | (simp [*]; done)), H', ⟨Nat.le_refl _⟩, ⟨by (with_reducible repeat (first | apply Kd.R_alloc | apply Kd.R_drewN | apply Kd.R_drew)); exact HO1.out⟩, ⟨by repeat (first | (with_reducible first | exact HK.out | apply Kept.alloc | apply Kept.drewN | apply Kept.drew) | exact HK.out)⟩, ⟨by repeat (first | (with_reducible first | exact HB.out | apply below_alloc | apply pw_below_drewN | apply below_drew1) | exact HB.out)⟩⟩
  case round =>
    clear H'
    try clear c1
    try clear p2
    obtain ⟨x1_1, x8_1, rfl, HA, HK1, HO_1, HK, HB⟩ := hrel
    cases gk with
    | zero => exact absurd HA.out (by simp [impl_run.l0])
    | succ k1 =>
      have H := HA.out
      clear HA
      simp only [impl_run.l0] at H
      by_cases c3 : x8_1 < (l0.length : Int)
      · rw [if_pos c3] at H
        have c3b0 : decide (x8_1 < (l0.length : Int)) = true := decide_eq_true c3
        clear c3
        by_cases c4 : 0 ≤ x8_1
        · rw [if_pos c4] at H
          have c4b0 : decide (0 ≤ x8_1) = true := decide_eq_true c4
          clear c4
          by_cases c5 : x8_1 < (l0.length : Int)
          · rw [if_pos c5] at H
            have c5b0 : decide (x8_1 < (l0.length : Int)) = true := decide_eq_true c5
            clear c5
            by_cases c6 : 0 ≤ ((rd_T45 l0 x8_1).f2)
            · rw [if_pos c6] at H
              have c6b0 : decide (0 ≤ ((rd_T45 l0 x8_1).f2)) = true := decide_eq_true c6
              clear c6
              by_cases c7 : ((rd_T45 l0 x8_1).f2) < (x1_1.length : Int)
              · rw [if_pos c7] at H
                have c7b0 : decide (((rd_T45 l0 x8_1).f2) < (x1_1.length : Int)) = true := decide_eq_true c7
                clear c7
                by_cases c8 : 0 ≤ ((rd_T45 l0 x8_1).f3)
                · rw [if_pos c8] at H
                  have c8b0 : decide (0 ≤ ((rd_T45 l0 x8_1).f3)) = true := decide_eq_true c8
                  clear c8
                  by_cases c9 : ((rd_T45 l0 x8_1).f3) < (x1_1.length : Int)
                  · rw [if_pos c9] at H
                    have c9b0 : decide (((rd_T45 l0 x8_1).f3) < (x1_1.length : Int)) = true := decide_eq_true c9
                    clear c9
                    replace H := Option.bind_eq_some_iff.mp H
                    obtain ⟨t795, A100, H⟩ := H
                    replace H : (if 0 ≤ ((rd_T45 l0 x8_1).f1) then (if ((rd_T45 l0 x8_1).f1) < (x1_1.length : Int) then (impl_run.l0 k1 (x1_1.set (((rd_T45 l0 x8_1).f1) : Int).toNat t795) l0 (l0.length : Int) (wrap64 (x8_1 + 1))) else (none)) else (none)) = some r := H
                    have A10 := Aside0.mk A100
                    clear A100
                    by_cases c11 : 0 ≤ ((rd_T45 l0 x8_1).f1)
                    · rw [if_pos c11] at H
                      have c11b0 : decide (0 ≤ ((rd_T45 l0 x8_1).f1)) = true := decide_eq_true c11
                      clear c11
                      by_cases c12 : ((rd_T45 l0 x8_1).f1) < (x1_1.length : Int)
                      · rw [if_pos c12] at H
                        have c12b0 : decide (((rd_T45 l0 x8_1).f1) < (x1_1.length : Int)) = true := decide_eq_true c12
                        clear c12
                        obtain ⟨y796, hy796⟩ : ∃ y_ : List Int, y_ = (x1_1.set (((rd_T45 l0 x8_1).f1) : Int).toNat t795) := ⟨_, rfl⟩
                        replace H : (impl_run.l0 k1 y796 l0 (l0.length : Int) (wrap64 (x8_1 + 1))) = some r := by first | (rw [hy796]; with_reducible exact H) | (have H2_ := (Option.bind_some _ _).symm.trans H; rw [hy796]; with_reducible exact H2_) | (have H2_ := (Option.bind_some _ _).symm.trans H; with_reducible exact H2_) | with_reducible exact H | (rw [hy796]; exact H) | exact H
                        have Ny796 := Aside0.mk hy796
                        clear hy796
                        have H' := Aside0.mk H
                        clear H
                        have p791 : 0 ≤ (x8_1 : Int) := of_decide_eq_true (by first | (with_reducible assumption) | assumption)
                        have q791 : x8_1 < (l0.length : Int) := of_decide_eq_true (by first | (with_reducible assumption) | assumption)
                        obtain ⟨ad791, e791, hx791_0, hx791_1, hx791_2, hx791_3, hx791_4⟩ := at_T45 (Kd.C_kept_now HR0.out HK.out) x8_1 p791 q791
                        cases e791
                        replace p791 := eq_true p791
                        replace q791 := eq_true q791
                        try go_wp2_with (first | ((with_reducible refine gate_dst (N := 5) rfl ?_); refine box_event ?hg (N := 5) ?hd (cs := #[.string (⟨#[]⟩ : ByteArray), .int .i64 0, .int .i64 0, .int .i64 0, .int .i64 0]) (t := 45) ?hr ?_; (case hd => rfl); (case hg => rfl); (case hr => first | (go_simp; done) | (go_simp; rfl)); intro gb792 hg w14 hbox hb; have n0_ := Aside0.mk (Kd.R_below (by (with_reducible repeat (first | apply Kd.R_alloc | apply Kd.R_drewN | apply Kd.R_drew)); exact HO_1.out) hb); have n1_ := Aside0.mk (Kept.below (S := (fun k_ => P1_ k_)) (by repeat (first | (with_reducible first | exact HK.out | apply Kept.alloc | apply Kept.drewN | apply Kept.drew) | exact HK.out)) hb); have n2_ := Aside0.mk (below_step (by repeat (first | (with_reducible first | exact HB.out | apply below_alloc | apply pw_below_drewN | apply below_drew1) | exact HB.out)) hb); have n3_ := Aside0.mk (hbox); have n4_ := Aside0.mk ((by rw [hg]; exact (by first | exact HK.out.1 | exact (show Kept w _ (fun k_ => P1_ k_) from by repeat (first | (with_reducible first | exact HK.out | apply Kept.alloc | apply Kept.drewN | apply Kept.drew) | exact HK.out)).1) : w.heap.size ≤ gb792)); have n5_ := Aside0.mk ((by rw [hg]; exact (below_size (by repeat (first | (with_reducible first | exact HB.out | apply below_alloc | apply pw_below_drewN | apply below_drew1) | exact HB.out))) : w0.heap.size ≤ gb792)); clear HO_1; clear HK; clear HB; have HO_1 := n0_; have HK := n1_; have HB := n2_; have BK792 := n3_; have GW792 := n4_; have GE792 := n5_; clear n0_ n1_ n2_ n3_ n4_ n5_; clear hb hbox hg; have hcz15_0 : w14.cell? ⟨gb792, 0, none⟩ = some (.string (⟨#[]⟩ : ByteArray)) := (blk_cell BK792.out 0).trans rfl; have hcz15_1 : w14.cell? ⟨gb792, 1, none⟩ = some (.int .i64 0) := (blk_cell BK792.out 1).trans rfl; have hcz15_2 : w14.cell? ⟨gb792, 2, none⟩ = some (.int .i64 0) := (blk_cell BK792.out 2).trans rfl; have hcz15_3 : w14.cell? ⟨gb792, 3, none⟩ = some (.int .i64 0) := (blk_cell BK792.out 3).trans rfl; have hcz15_4 : w14.cell? ⟨gb792, 4, none⟩ = some (.int .i64 0) := (blk_cell BK792.out 4).trans rfl; have hfz15_0 := blk_frozen BK792.out 0; have hfz15_1 := blk_frozen BK792.out 1; have hfz15_2 := blk_frozen BK792.out 2; have hfz15_3 := blk_frozen BK792.out 3; have hfz15_4 := blk_frozen BK792.out 4))
                        have n0_ : Aside0 (Kd.R (Kd.int .i64) 3 (((((w14.setCell ⟨gb792, 0, none⟩ (.string ((rd_T45 l0 x8_1).f0))).setCell ⟨gb792, 1, none⟩ (.int .i64 ((rd_T45 l0 x8_1).f1))).setCell ⟨gb792, 2, none⟩ (.int .i64 ((rd_T45 l0 x8_1).f2))).setCell ⟨gb792, 3, none⟩ (.int .i64 ((rd_T45 l0 x8_1).f3))).setCell ⟨gb792, 4, none⟩ (.int .i64 ((rd_T45 l0 x8_1).f4))) w0.heap.size (fun k_ => (P1_ k_ ∨ w.heap.size ≤ k_)) u9000_ x1_1) := ⟨by (with_reducible repeat (first | apply Kd.R_alloc | apply Kd.R_drewN | apply Kd.R_drew)); exact Kd.R_mono (Kd.R_far (p := ⟨gb792, 4, none⟩) (Kd.R_far (p := ⟨gb792, 3, none⟩) (Kd.R_far (p := ⟨gb792, 2, none⟩) (Kd.R_far (p := ⟨gb792, 1, none⟩) (Kd.R_far (p := ⟨gb792, 0, none⟩) (Kd.R_types HO_1.out BK792.out (by decide)) (fun _ hk => hk.2) (.string ((rd_T45 l0 x8_1).f0))) (fun _ hk => hk.2) (.int .i64 ((rd_T45 l0 x8_1).f1))) (fun _ hk => hk.2) (.int .i64 ((rd_T45 l0 x8_1).f2))) (fun _ hk => hk.2) (.int .i64 ((rd_T45 l0 x8_1).f3))) (fun _ hk => hk.2) (.int .i64 ((rd_T45 l0 x8_1).f4))) (fun _ hk => hk.1)⟩
                        have n1_ : Aside0 ((((((w14.setCell ⟨gb792, 0, none⟩ (.string ((rd_T45 l0 x8_1).f0))).setCell ⟨gb792, 1, none⟩ (.int .i64 ((rd_T45 l0 x8_1).f1))).setCell ⟨gb792, 2, none⟩ (.int .i64 ((rd_T45 l0 x8_1).f2))).setCell ⟨gb792, 3, none⟩ (.int .i64 ((rd_T45 l0 x8_1).f3))).setCell ⟨gb792, 4, none⟩ (.int .i64 ((rd_T45 l0 x8_1).f4))).heap[gb792]? = some (.cells #[.string ((rd_T45 l0 x8_1).f0), .int .i64 ((rd_T45 l0 x8_1).f1), .int .i64 ((rd_T45 l0 x8_1).f2), .int .i64 ((rd_T45 l0 x8_1).f3), .int .i64 ((rd_T45 l0 x8_1).f4)] 45 (0, 0))) := ⟨by (with_reducible repeat (first | refine blk_drewN ?_ _ | refine blk_drew ?_ | refine blk_alloc ?_ _)); refine blk_put (cs := #[.string ((rd_T45 l0 x8_1).f0), .int .i64 ((rd_T45 l0 x8_1).f1), .int .i64 ((rd_T45 l0 x8_1).f2), .int .i64 ((rd_T45 l0 x8_1).f3), .int .i64 0]) ?_ 4 _ rfl; (with_reducible repeat (first | refine blk_drewN ?_ _ | refine blk_drew ?_ | refine blk_alloc ?_ _)); refine blk_put (cs := #[.string ((rd_T45 l0 x8_1).f0), .int .i64 ((rd_T45 l0 x8_1).f1), .int .i64 ((rd_T45 l0 x8_1).f2), .int .i64 0, .int .i64 0]) ?_ 3 _ rfl; (with_reducible repeat (first | refine blk_drewN ?_ _ | refine blk_drew ?_ | refine blk_alloc ?_ _)); refine blk_put (cs := #[.string ((rd_T45 l0 x8_1).f0), .int .i64 ((rd_T45 l0 x8_1).f1), .int .i64 0, .int .i64 0, .int .i64 0]) ?_ 2 _ rfl; (with_reducible repeat (first | refine blk_drewN ?_ _ | refine blk_drew ?_ | refine blk_alloc ?_ _)); refine blk_put (cs := #[.string ((rd_T45 l0 x8_1).f0), .int .i64 0, .int .i64 0, .int .i64 0, .int .i64 0]) ?_ 1 _ rfl; (with_reducible repeat (first | refine blk_drewN ?_ _ | refine blk_drew ?_ | refine blk_alloc ?_ _)); refine blk_put (cs := #[.string (⟨#[]⟩ : ByteArray), .int .i64 0, .int .i64 0, .int .i64 0, .int .i64 0]) ?_ 0 _ rfl; (with_reducible repeat (first | refine blk_drewN ?_ _ | refine blk_drew ?_ | refine blk_alloc ?_ _)); exact BK792.out⟩
                        have n2_ : Aside0 (Kept w (((((w14.setCell ⟨gb792, 0, none⟩ (.string ((rd_T45 l0 x8_1).f0))).setCell ⟨gb792, 1, none⟩ (.int .i64 ((rd_T45 l0 x8_1).f1))).setCell ⟨gb792, 2, none⟩ (.int .i64 ((rd_T45 l0 x8_1).f2))).setCell ⟨gb792, 3, none⟩ (.int .i64 ((rd_T45 l0 x8_1).f3))).setCell ⟨gb792, 4, none⟩ (.int .i64 ((rd_T45 l0 x8_1).f4))) (fun k_ => P1_ k_)) := ⟨by repeat (first | (with_reducible first | exact HK.out | apply Kept.alloc | apply Kept.drewN | apply Kept.drew | refine Kept.setCell ?_ (.inr GW792.out) _) | exact HK.out)⟩
                        have n3_ : Aside0 (Below w0.heap.size w0 (((((w14.setCell ⟨gb792, 0, none⟩ (.string ((rd_T45 l0 x8_1).f0))).setCell ⟨gb792, 1, none⟩ (.int .i64 ((rd_T45 l0 x8_1).f1))).setCell ⟨gb792, 2, none⟩ (.int .i64 ((rd_T45 l0 x8_1).f2))).setCell ⟨gb792, 3, none⟩ (.int .i64 ((rd_T45 l0 x8_1).f3))).setCell ⟨gb792, 4, none⟩ (.int .i64 ((rd_T45 l0 x8_1).f4)))) := ⟨by repeat (first | (with_reducible first | exact HB.out | apply below_alloc | apply pw_below_drewN | apply below_drew1 | refine below_set ?_ GE792.out) | exact HB.out)⟩
                        (try clear HO_1)
                        (try clear BK792)
                        (try clear HK)
                        (try clear HB)
                        generalize (((((w14.setCell ⟨gb792, 0, none⟩ (.string ((rd_T45 l0 x8_1).f0))).setCell ⟨gb792, 1, none⟩ (.int .i64 ((rd_T45 l0 x8_1).f1))).setCell ⟨gb792, 2, none⟩ (.int .i64 ((rd_T45 l0 x8_1).f2))).setCell ⟨gb792, 3, none⟩ (.int .i64 ((rd_T45 l0 x8_1).f3))).setCell ⟨gb792, 4, none⟩ (.int .i64 ((rd_T45 l0 x8_1).f4))) = w16 at n0_ n1_ n2_ n3_ ⊢
                        have HO_1 := n0_
                        have BK792 := n1_
                        have HK := n2_
                        have HB := n3_
                        clear n0_ n1_ n2_ n3_
                        have n0_ := Aside0.mk (Kd.R_drew HO_1.out)
                        have n1_ := Aside0.mk (blk_drew BK792.out)
                        have n2_ := Aside0.mk (Kept.drew HK.out)
                        have n3_ := Aside0.mk (below_drew1 HB.out)
                        clear HO_1
                        clear BK792
                        clear HK
                        clear HB
                        have HO_1 := n0_
                        have BK792 := n1_
                        have HK := n2_
                        have HB := n3_
                        clear n0_ n1_ n2_ n3_
                        obtain ⟨Ao18, co18, eo18⟩ := Kd.R_slice HO_1.out
                        (first | subst eo18 | (injection eo18 with f1_ f2_ f3_; have f4_ := f1_.symm; have f5_ := f3_.symm; clear f1_ f2_ f3_; subst f4_; subst f5_))
                        have p793 : 0 ≤ (((rd_T45 l0 x8_1).f2) : Int) := of_decide_eq_true (by first | (with_reducible assumption) | assumption)
                        have q793 : ((rd_T45 l0 x8_1).f2) < (x1_1.length : Int) := of_decide_eq_true (by first | (with_reducible assumption) | assumption)
                        obtain ⟨ad793, e793, hx793_0⟩ := Kd.at_int (Kd.R_reads' HO_1.out).2.2 ((rd_T45 l0 x8_1).f2) p793 q793
                        cases e793
                        replace p793 := eq_true p793
                        replace q793 := eq_true q793
                        have p794 : 0 ≤ (((rd_T45 l0 x8_1).f3) : Int) := of_decide_eq_true (by first | (with_reducible assumption) | assumption)
                        have q794 : ((rd_T45 l0 x8_1).f3) < (x1_1.length : Int) := of_decide_eq_true (by first | (with_reducible assumption) | assumption)
                        obtain ⟨ad794, e794, hx794_0⟩ := Kd.at_int (Kd.R_reads' HO_1.out).2.2 ((rd_T45 l0 x8_1).f3) p794 q794
                        obtain rfl : ad793 = ad794 := (by injection e794)
                        replace p794 := eq_true p794
                        replace q794 := eq_true q794
                        refine start_ (n := 17) (S := fun w' => w'.cell? ⟨gb792, 0, none⟩ = some (.string ((rd_T45 l0 x8_1).f0)) ∧ w'.cell? ⟨gb792, 1, none⟩ = some (.int .i64 ((rd_T45 l0 x8_1).f1)) ∧ w'.cell? ⟨gb792, 2, none⟩ = some (.int .i64 ((rd_T45 l0 x8_1).f2)) ∧ w'.cell? ⟨gb792, 3, none⟩ = some (.int .i64 ((rd_T45 l0 x8_1).f3)) ∧ w'.cell? ⟨gb792, 4, none⟩ = some (.int .i64 ((rd_T45 l0 x8_1).f4)) ∧ w'.cell? (ad793.add (((rd_T45 l0 x8_1).f2)).toNat) = some (.int .i64 (rd x1_1 ((rd_T45 l0 x8_1).f2))) ∧ w'.cell? (ad793.add (((rd_T45 l0 x8_1).f3)).toNat) = some (.int .i64 (rd x1_1 ((rd_T45 l0 x8_1).f3)))) (ds := [16]) #[false, false, false, false, false, false, false, false, false, false, false, false, false, false, false, false, false] (by kernel_rfl) rfl rfl ⟨(blk_cell BK792.out 0).trans rfl, (blk_cell BK792.out 1).trans rfl, (blk_cell BK792.out 2).trans rfl, (blk_cell BK792.out 3).trans rfl, (blk_cell BK792.out 4).trans rfl, hx793_0, hx794_0⟩ (fun hHeld => ?_); refine with_tabW impl_run.tab3 impl_run.bits3 (fun HT_ HW_ => ?_)
                        generalize w16.drew = w17 at HO_1 BK792 HK HB hx793_0 hx794_0 hHeld ⊢
                        refine pure_ (i := 0) (N := some 12) (v := ?_) (a' := ?_) #[true, false, false, false, false, false, false, false, false, false, false, false, false, false, false, false, false] rfl rfl (any_of HT_.out (by kernel_rfl)) (fun _ _ _ h => h) (Or.inl ⟨by rfl, ?_⟩) ?_ ?_
                        rotate_left
                        · intro w'
                          go_simp
                          with_reducible rfl
                        rotate_left
                        · simp only [Act.put, List.setIfInBounds_toArray, List.set_cons_zero, List.set_cons_succ, i64_w, i32_w]
                          rfl
                        refine pure_ (i := 1) (N := some 13) (v := ?_) (a' := ?_) #[true, true, false, false, false, false, false, false, false, false, false, false, false, false, false, false, false] rfl rfl (any_of HT_.out (by kernel_rfl)) (fun _ _ _ h => h) (Or.inl ⟨by rfl, ?_⟩) ?_ ?_
                        rotate_left
                        · intro w'
                          go_simp
                          with_reducible rfl
                        rotate_left
                        · simp only [Act.put, List.setIfInBounds_toArray, List.set_cons_zero, List.set_cons_succ, i64_w, i32_w]
                          rfl
                        refine pure_ (i := 4) (N := some 16) (v := ?_) (a' := ?_) #[true, true, false, false, true, false, false, false, false, false, false, false, false, false, false, false, false] rfl rfl (any_of HT_.out (by kernel_rfl)) (fun _ _ _ h => h) (Or.inl ⟨by rfl, ?_⟩) ?_ ?_
                        rotate_left
                        · intro w'
                          go_simp
                          with_reducible rfl
                        rotate_left
                        · simp only [Act.put, List.setIfInBounds_toArray, List.set_cons_zero, List.set_cons_succ, i64_w, i32_w]
                          rfl
                        refine pure_ (i := 5) (N := some 17) (v := ?_) (a' := ?_) #[true, true, false, false, true, true, false, false, false, false, false, false, false, false, false, false, false] rfl rfl (any_of HT_.out (by kernel_rfl)) (fun _ _ _ h => h) (Or.inl ⟨by rfl, ?_⟩) ?_ ?_
                        rotate_left
                        · intro w'
                          go_simp
                          with_reducible rfl
                        rotate_left
                        · simp only [Act.put, List.setIfInBounds_toArray, List.set_cons_zero, List.set_cons_succ, i64_w, i32_w]
                          rfl
                        refine pure_ (i := 9) (N := some 21) (v := ?_) (a' := ?_) #[true, true, false, false, true, true, false, false, false, true, false, false, false, false, false, false, false] rfl rfl (any_of HT_.out (by kernel_rfl)) (fun _ _ _ h => h) (Or.inl ⟨by rfl, ?_⟩) ?_ ?_
                        rotate_left
                        · intro w'
                          go_simp
                          with_reducible rfl
                        rotate_left
                        · simp only [Act.put, List.setIfInBounds_toArray, List.set_cons_zero, List.set_cons_succ, i64_w, i32_w]
                          rfl
                        refine pure_ (i := 10) (N := some 22) (v := ?_) (a' := ?_) #[true, true, false, false, true, true, false, false, false, true, true, false, false, false, false, false, false] rfl rfl (any_of HT_.out (by kernel_rfl)) (fun _ _ _ h => h) (Or.inl ⟨by rfl, ?_⟩) ?_ ?_
                        rotate_left
                        · intro w'
                          go_simp
                          with_reducible rfl
                        rotate_left
                        · simp only [Act.put, List.setIfInBounds_toArray, List.set_cons_zero, List.set_cons_succ, i64_w, i32_w]
                          rfl
                        refine take_ (i := 2) (N := some 14) (v := ?_) (a' := ?_) #[true, true, true, false, true, true, false, false, false, true, true, false, false, false, false, false, false] rfl rfl (take_ofW HT_.out HW_.out (by kernel_rfl)) (fun _ _ _ h => h) (Or.inl ⟨by rfl, ?_⟩) hHeld ?_ ?_
                        rotate_left
                        · rintro w' ⟨s0, s1, s2, s3, s4, s5, s6⟩
                          go_simp
                          with_reducible rfl
                        rotate_left
                        · simp only [Act.put, List.setIfInBounds_toArray, List.set_cons_zero, List.set_cons_succ, i64_w, i32_w]
                          rfl
                        refine take_ (i := 3) (N := some 15) (v := ?_) (a' := ?_) #[true, true, true, true, true, true, false, false, false, true, true, false, false, false, false, false, false] rfl rfl (take_ofW HT_.out HW_.out (by kernel_rfl)) (fun _ _ _ h => h) (Or.inl ⟨by rfl, ?_⟩) hHeld ?_ ?_
                        rotate_left
                        · rintro w' ⟨s0, s1, s2, s3, s4, s5, s6⟩
                          go_simp
                          with_reducible rfl
                        rotate_left
                        · simp only [Act.put, List.setIfInBounds_toArray, List.set_cons_zero, List.set_cons_succ, i64_w, i32_w]
                          rfl
                        refine take_ (i := 6) (N := some 18) (v := ?_) (a' := ?_) #[true, true, true, true, true, true, true, false, false, true, true, false, false, false, false, false, false] rfl rfl (take_ofW HT_.out HW_.out (by kernel_rfl)) (fun _ _ _ h => h) (Or.inl ⟨by rfl, ?_⟩) hHeld ?_ ?_
                        rotate_left
                        · rintro w' ⟨s0, s1, s2, s3, s4, s5, s6⟩
                          go_simp
                          with_reducible rfl
                        rotate_left
                        · simp only [Act.put, List.setIfInBounds_toArray, List.set_cons_zero, List.set_cons_succ, i64_w, i32_w]
                          rfl
                        refine pure_ (i := 7) (N := some 19) (v := ?_) (a' := ?_) #[true, true, true, true, true, true, true, true, false, true, true, false, false, false, false, false, false] rfl rfl (any_of HT_.out (by kernel_rfl)) (fun _ _ _ h => h) (Or.inl ⟨by rfl, ?_⟩) ?_ ?_
                        rotate_left
                        · intro w'
                          go_simp
                          with_reducible rfl
                        rotate_left
                        · simp only [Act.put, List.setIfInBounds_toArray, List.set_cons_zero, List.set_cons_succ, i64_w, i32_w]
                          rfl
                        refine take_ (i := 8) (N := some 20) (v := ?_) (a' := ?_) #[true, true, true, true, true, true, true, true, true, true, true, false, false, false, false, false, false] rfl rfl (take_ofW HT_.out HW_.out (by kernel_rfl)) (fun _ _ _ h => h) (Or.inl ⟨by rfl, ?_⟩) hHeld ?_ ?_
                        rotate_left
                        · rintro w' ⟨s0, s1, s2, s3, s4, s5, s6⟩
                          go_simp
                          with_reducible rfl
                        rotate_left
                        · simp only [Act.put, List.setIfInBounds_toArray, List.set_cons_zero, List.set_cons_succ, i64_w, i32_w]
                          rfl
                        refine take_ (i := 11) (N := some 23) (v := ?_) (a' := ?_) #[true, true, true, true, true, true, true, true, true, true, true, true, false, false, false, false, false] rfl rfl (take_ofW HT_.out HW_.out (by kernel_rfl)) (fun _ _ _ h => h) (Or.inl ⟨by rfl, ?_⟩) hHeld ?_ ?_
                        rotate_left
                        · rintro w' ⟨s0, s1, s2, s3, s4, s5, s6⟩
                          go_simp
                          with_reducible rfl
                        rotate_left
                        · simp only [Act.put, List.setIfInBounds_toArray, List.set_cons_zero, List.set_cons_succ, i64_w, i32_w]
                          rfl
                        refine pure_ (i := 12) (N := some 24) (v := ?_) (a' := ?_) #[true, true, true, true, true, true, true, true, true, true, true, true, true, false, false, false, false] rfl rfl (any_of HT_.out (by kernel_rfl)) (fun _ _ _ h => h) (Or.inl ⟨by rfl, ?_⟩) ?_ ?_
                        rotate_left
                        · intro w'
                          go_simp
                          with_reducible rfl
                        rotate_left
                        · simp only [Act.put, List.setIfInBounds_toArray, List.set_cons_zero, List.set_cons_succ, i64_w, i32_w]
                          rfl
                        refine take_ (i := 13) (N := some 25) (v := ?_) (a' := ?_) #[true, true, true, true, true, true, true, true, true, true, true, true, true, true, false, false, false] rfl rfl (take_ofW HT_.out HW_.out (by kernel_rfl)) (fun _ _ _ h => h) (Or.inl ⟨by rfl, ?_⟩) hHeld ?_ ?_
                        rotate_left
                        · rintro w' ⟨s0, s1, s2, s3, s4, s5, s6⟩
                          go_simp
                          with_reducible rfl
                        rotate_left
                        · simp only [Act.put, List.setIfInBounds_toArray, List.set_cons_zero, List.set_cons_succ, i64_w, i32_w]
                          rfl
                        refine one_ (i := 14) (N := some 26) #[true, true, true, true, true, true, true, true, true, true, true, true, true, true, true, false, false] rfl rfl (one_of HT_.out (by kernel_rfl)) (by decide) (fun K hK => ?_)
                        refine goes_ Try.func160 (by kernel_rfl) rfl #[.agg #[.string ((rd_T45 l0 x8_1).f0), .int .i64 ((rd_T45 l0 x8_1).f1), .int .i64 ((rd_T45 l0 x8_1).f2), .int .i64 ((rd_T45 l0 x8_1).f3), .int .i64 ((rd_T45 l0 x8_1).f4)], .int .i64 (rd x1_1 ((rd_T45 l0 x8_1).f2)), .int .i64 (rd x1_1 ((rd_T45 l0 x8_1).f3))] (by rfl) rfl rfl (by (try simp only [List.map_toArray, List.map_cons, List.map_nil]); first | done | rfl | (simp only [List.length_drop, List.length_take]; rfl)) ?_
                        with_reducible refine (impl_Instr_word.calls k1 ((rd_T45 l0 x8_1).f0) ((rd_T45 l0 x8_1).f1) ((rd_T45 l0 x8_1).f2) ((rd_T45 l0 x8_1).f3) ((rd_T45 l0 x8_1).f4) (rd x1_1 ((rd_T45 l0 x8_1).f2)) (rd x1_1 ((rd_T45 l0 x8_1).f3)) t795 _ A10.out).mono ?_
                        rintro e w19 ⟨rfl, hb⟩
                        have HS5_ := (hb.cell (World.block_lt_of_cell? _ _ (hHeld.2.2.2.2.2.1))).trans (hHeld.2.2.2.2.2.1)
                        have HS6_ := (hb.cell (World.block_lt_of_cell? _ _ (hHeld.2.2.2.2.2.2))).trans (hHeld.2.2.2.2.2.2)
                        refine ⟨_, rfl, ?_⟩
                        have n0_ := Aside0.mk (Kd.R_below (by (with_reducible repeat (first | apply Kd.R_alloc | apply Kd.R_drewN | apply Kd.R_drew)); exact HO_1.out) hb)
                        have n1_ := Aside0.mk (blk_below (g := gb792) (o := .cells #[.string ((rd_T45 l0 x8_1).f0), .int .i64 ((rd_T45 l0 x8_1).f1), .int .i64 ((rd_T45 l0 x8_1).f2), .int .i64 ((rd_T45 l0 x8_1).f3), .int .i64 ((rd_T45 l0 x8_1).f4)] 45 (0, 0)) (by (with_reducible repeat (first | refine blk_drewN ?_ _ | refine blk_drew ?_ | refine blk_alloc ?_ _)); exact BK792.out) hb)
                        have n2_ := Aside0.mk (Kept.below (S := (fun k_ => P1_ k_)) (by repeat (first | (with_reducible first | exact HK.out | apply Kept.alloc | apply Kept.drewN | apply Kept.drew | refine Kept.setCell ?_ (.inr GW792.out) _) | exact HK.out)) hb)
                        have n3_ := Aside0.mk (below_step (by repeat (first | (with_reducible first | exact HB.out | apply below_alloc | apply pw_below_drewN | apply below_drew1 | refine below_set ?_ GE792.out) | exact HB.out)) hb)
                        clear HO_1
                        clear BK792
                        clear HK
                        clear HB
                        have HO_1 := n0_
                        have BK792 := n1_
                        have HK := n2_
                        have HB := n3_
                        clear n0_ n1_ n2_ n3_
                        (try clear hb)
                        (try clear hb2)
                        (try clear hk)
                        (try clear hi)
                        have p13 : 0 ≤ (((rd_T45 l0 x8_1).f1) : Int) := of_decide_eq_true (by first | (with_reducible assumption) | assumption)
                        have q13 : (((rd_T45 l0 x8_1).f1) : Int) < ((x1_1.length : Int) : Int) := of_decide_eq_true (by first | (with_reducible assumption) | assumption)
                        obtain ⟨go13, co13, eo13, gb13, gl13, cl13, HG13⟩ := Kd.R_form HO_1.out (by omega)
                        (first | cases eo13 | (injection eo13 with ea_ en_ ec_; (first | subst ea_ | (injection ea_ with ea_; subst ea_)); subst ec_; clear en_))
                        have GB13 := Aside0.mk gb13
                        have GG13 := Aside0.mk HG13
                        clear gb13 gl13 HG13
                        have HMgo13 := Aside0.mk (show (P1_ go13 ∨ w.heap.size ≤ go13) from (HO_1.out.1 _ rfl))
                        (first | simp only [add_plain] at hx793_0 | skip)
                        (first | simp only [add_plain] at hx794_0 | skip)
                        obtain ⟨hx13_0, hf13_0⟩ := Kd.R_celln 0 HO_1.out (((rd_T45 l0 x8_1).f1) : Int) p13 q13
                        replace p13 := eq_true p13
                        replace q13 := eq_true q13
                        have HP20 := Kd.R_putn HO_1.out (((rd_T45 l0 x8_1).f1) : Int) t795
                        rw [← Ny796.out] at HP20
                        have HQ20 := Aside0.mk HP20
                        clear HP20
                        refine hK.out _ _ ⟨(blk_cell BK792.out 0).trans rfl, (blk_cell BK792.out 1).trans rfl, (blk_cell BK792.out 2).trans rfl, (blk_cell BK792.out 3).trans rfl, (blk_cell BK792.out 4).trans rfl, HS5_, HS6_⟩ (fun hHeld => ?_)
                        clear hK K
                        refine norm_ (a' := ?_) ?_ ?_
                        rotate_left
                        · show Act.put _ (some 26) _ = _
                          simp only [Act.put, List.setIfInBounds_toArray, List.set_cons_zero, List.set_cons_succ, i64_w, i32_w]
                          rfl
                        refine pure_ (i := 15) (N := some 27) (v := ?_) (a' := ?_) #[true, true, true, true, true, true, true, true, true, true, true, true, true, true, true, true, false] rfl rfl (any_of HT_.out (by kernel_rfl)) (fun _ _ _ h => h) (Or.inl ⟨by rfl, ?_⟩) ?_ ?_
                        rotate_left
                        · intro w'
                          go_simp
                          with_reducible rfl
                        rotate_left
                        · simp only [Act.put, List.setIfInBounds_toArray, List.set_cons_zero, List.set_cons_succ, i64_w, i32_w]
                          rfl
                        refine last_ (i := 16) (N := none) #[true, true, true, true, true, true, true, true, true, true, true, true, true, true, true, true, true] rfl rfl (one_of HT_.out (by kernel_rfl)) (by decide) (fun K hK => ?_)
                        refine skip_ (w1 := ?_) (by rfl) rfl ?_ ?_
                        rotate_left
                        · go_simp
                          rfl
                        refine hK.out _ _ ?_
                        clear hK K
                        refine done_ (done_of HT_.out (by kernel_rfl)) ?_
                        try go_wp2
                        go_roundg k1
                        case measure => have := HK1.out; omega
                        case rel => exact ⟨(y796), (wrap64 (x8_1 + 1)), (by first | rfl | (simp; done) | (simp [*]; done)), H', ⟨by have := HK1.out; omega⟩, ⟨by (with_reducible repeat (first | apply Kd.R_alloc | apply Kd.R_drewN | apply Kd.R_drew)); exact HQ20.out⟩, ⟨by repeat (first | (with_reducible first | exact HK.out | apply Kept.alloc | apply Kept.drewN | apply Kept.drew | refine Kept.setCell ?_ HMgo13.out _ | refine Kept.setCell ?_ (.inr GW792.out) _) | exact HK.out)⟩, ⟨by repeat (first | (with_reducible first | exact HB.out | apply below_alloc | apply pw_below_drewN | apply below_drew1 | refine below_set ?_ GB13.out | refine below_set ?_ GE792.out) | exact HB.out)⟩⟩
                      · rw [if_neg c12] at H
                        exact absurd H (by simp)
                    · rw [if_neg c11] at H
                      exact absurd H (by simp)
                  · rw [if_neg c9] at H
                    exact absurd H (by simp)
                · rw [if_neg c8] at H
                  exact absurd H (by simp)
              · rw [if_neg c7] at H
                exact absurd H (by simp)
            · rw [if_neg c6] at H
              exact absurd H (by simp)
          · rw [if_neg c5] at H
            exact absurd H (by simp)
        · rw [if_neg c4] at H
          exact absurd H (by simp)
      · rw [if_neg c3] at H
        have c3b0 : decide (x8_1 < (l0.length : Int)) = false := decide_eq_false c3
        clear c3
        obtain rfl := Option.some.inj H
        go_wp2
        first | go_end0 | ((try simp only [Exit.inBlock, Exit.then]); refine bodyPost_ret (results_none rfl _ _ _) rfl ?_)
        exact ⟨by first | rfl | (simp [errW_none, errW_some] <;> rfl) | (simp [*, errW_none, errW_some] <;> rfl), by (with_reducible repeat (first | apply Kd.R_alloc | apply Kd.R_drewN | apply Kd.R_drew)); exact HO_1.out, by repeat (first | (with_reducible first | exact HB.out | apply below_alloc | apply pw_below_drewN | apply below_drew1) | exact HB.out), by repeat (first | (with_reducible first | exact HK.out | apply Kept.alloc | apply Kept.drewN | apply Kept.drew) | exact HK.out)⟩

end Go.Proofs.Ytaddadknmipfeaa.F
