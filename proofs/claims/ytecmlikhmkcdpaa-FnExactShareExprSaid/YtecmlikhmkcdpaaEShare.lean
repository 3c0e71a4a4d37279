/- spec.exShare: the nodes of an expression, each once, equal ones made one. -/
import Derived.Test.YtecmlikhmkcdpaaEOnce
namespace Go.Proofs.Ytecmlikhmkcdpaa.E
open Go.RowKit Go.Proofs.YtecmlikhmkcdpaaW.PrintWords Go.Proofs.YtecmlikhmkcdpaaW.PrintLast Go.Proofs.YtecmlikhmkcdpaaW.PrintMore
attribute [local go_sem] max2_int min2_int max_two min_two max_three min_three max_four min_four
set_option linter.unusedVariables false
set_option linter.unusedSimpArgs false

section
variable {ops : Array Oper} {rest : List Oper} {o : Oper} {a : Act} {Q : Exit → Act → World → Prop} {W : World}
theorem made_zeros (m : Nat) : madeCells #[.int .i64 0] m = ((List.replicate m (0 : Int)).map (Value.int .i64)).toArray := by
  apply Array.ext
  · simp [size_madeCells]
  · intro i h1 h2
    simp [madeCells, Nat.mod_one]
theorem make_dn (hgd : o.guard = none) {N : Tmp} (hd : o.dst = some N) (x y : Operand) (ho : o.op = .makeSlice 40 x y) (m : Nat) (hx : a.eval x = .int .i64 (m : Int)) (hy : a.eval y = .int .i64 (m : Int)) (hm : m ≤ 1000000)
    (h : ∀ g, g = W.heap.size → ∀ w1, dn g (List.replicate m 0) w1 → Below W.heap.size W w1 → wpList Try.prog ops Q rest (a.put o.dst (.slice (some ⟨g, 0, none⟩) m m)) w1) : wpList Try.prog ops Q (o :: rest) a W := by
  obtain ⟨i0, hi, hzz⟩ := Option.map_eq_some_iff.1 info3
  simp only [Prod.mk.injEq] at hzz
  obtain ⟨hz0, hz1, hz2⟩ := hzz
  have hr := run_make (P := Try.prog) W 40 3 i0 (.int .i64 0) Try.underlying40 hi hz0 .i64 .i64 (m : Int) (m : Int) (by omega) (by omega) (by rw [hz2]; omega) (by omega)
  simp only [Int.toNat_natCast] at hr
  rw [hz1, Nat.mul_one] at hr
  refine Kd.event_run hgd (v := .slice (some ⟨W.heap.size, 0, none⟩) m m) (w1 := W.alloc (.cells (madeCells #[.int .i64 0] m) 3)) ?_ (h _ rfl _ ?_ (below_alloc (Below.refl _ _) _))
  · simp [execOp, ho, hx, hy]
    rw [hr]
    rfl
  · unfold dn
    rw [made_zeros]
    exact heap_alloc_new W _
end
theorem exb_once.mono : ∀ k e i n ds, LeO (exb_once.f k e i n ds) (exb_once.f (k + 1) e i n ds) := by
  intro k
  induction k with
  | zero => intro e i n ds r h; cases h
  | succ k ih =>
    intro e i n ds
    rw [exb_once.f, exb_once.f]
    repeat' first
      | (with_reducible exact ih _ _ _ _)
      | (with_reducible exact spec_exParts.mono _ _ _ _ _)
      | (with_reducible exact LeO.refl _)
      | (with_reducible exact LeO.none _)
      | (with_reducible refine LeO.ite ?_ ?_)
      | (with_reducible refine LeO.bind ?_ (fun _ => ?_))
      | exact ih _ _ _ _
      | refine LeO.ite ?_ ?_
      | refine LeO.bind ?_ (fun _ => ?_)
def spec_exShare.f (k : Nat) (l0 : List S79) : Option (List S79) := if l0.length ≤ 1000000 then (exb_once.f k l0 (wrap64 ((l0.length : Int) - 1)) [] (List.replicate l0.length (-1))).bind fun r => some r.2.1 else none
theorem spec_exShare.mono : ∀ a0 k, LeO (spec_exShare.f k a0) (spec_exShare.f (k + 1) a0) := by
  intro a0 k
  unfold spec_exShare.f
  repeat' first
    | (with_reducible exact exb_once.mono _ _ _ _ _)
    | (with_reducible exact LeO.refl _)
    | (with_reducible refine LeO.ite ?_ ?_)
    | (with_reducible refine LeO.bind ?_ (fun _ => ?_))
set_option maxHeartbeats 16000000 in
set_option maxRecDepth 100000 in
theorem spec_exShare.calls (k : Nat) (A0 : Option Addr) (c0 : Nat) (l0 : List S79) (r0 : List S79) (w : World) (hr0 : Kd.C k79 w A0 l0.length l0) (hc0 : l0.length ≤ c0) (h : spec_exShare.f k l0 = some r0) :
    Calls Try.prog 71 #[.slice A0 l0.length c0] w fun e w' => ∃ v0_ : Value, e = .returned v0_ ∧ Kd.R k79 79 w' w.heap.size (fun _ => True) v0_ r0 ∧ Below w.heap.size w w' := by
  have HR0 := Aside0.mk hr0
  have HC0 := Aside0.mk hc0
  clear hr0 hc0
  have HB := Aside0.mk (Below.refl w.heap.size w)
  have H := h
  clear h
  unfold spec_exShare.f at H
  by_cases hl : l0.length ≤ 1000000
  · rw [if_pos hl] at H
    have HL := Aside0.mk hl
    clear hl
    obtain ⟨j, hj⟩ : ∃ j : Int, wrap64 ((l0.length : Int) - 1) = j := ⟨_, rfl⟩
    rw [hj] at H
    have hjw : (IntKind.i64.wrap ((l0.length : Int) - 1)) = j := (i64_w _).trans hj
    replace H := Option.bind_eq_some_iff.mp H
    obtain ⟨r, HW, H⟩ := H
    have HW := Aside0.mk (show exb_once.f k l0 j [] (List.replicate l0.length (-1)) = some (r.1, r.2.1, r.2.2) from HW)
    obtain rfl := Option.some.inj H
    clear H
    go_enter Try.func71, Try.ntmps71
    go_wp2_with (first | ((with_reducible refine gate_dst (N := 7) rfl ?_); refine box_event ?hg (N := 7) ?hd (cs := #[.slice none 0 0, .bool true]) (t := 78) ?hr ?_; (case hd => rfl); (case hg => rfl); (case hr => first | (go_simp; done) | (go_simp; rfl)); intro gb hg w1 hbox hb; have HGB := Aside0.mk (show w.heap.size ≤ gb from by rw [hg]; exact below_size (by repeat (first | (with_reducible first | exact HB.out | apply below_alloc | apply pw_below_drewN | apply below_drew1) | exact HB.out))); have HBX := Aside0.mk hbox; have n0_ := Aside0.mk (below_step (by repeat (first | (with_reducible first | exact HB.out | apply below_alloc | apply pw_below_drewN | apply below_drew1) | exact HB.out)) hb); clear HB; have HB := n0_; clear n0_ hg hbox hb) | ((with_reducible refine gate_dst (N := 10) rfl ?_); refine make_dn ?hg (N := 10) ?hd _ _ rfl l0.length rfl rfl HL.out ?_; (case hd => rfl); (case hg => rfl); intro gd hg w2 hdn hb; have HGD := Aside0.mk (show w.heap.size ≤ gd from by rw [hg]; exact below_size (by repeat (first | (with_reducible first | exact HB.out | apply below_alloc | apply pw_below_drewN | apply below_drew1) | exact HB.out))); have NE := Aside0.mk (show gd ≠ gb from by rw [hg]; exact Nat.ne_of_gt (blk_lt (show _ = some (.cells #[.slice none 0 0, .bool true] 78 (0, 0)) from (by (with_reducible repeat (first | refine blk_drewN ?_ _ | refine blk_drew ?_ | refine blk_alloc ?_ _)); exact HBX.out)))); have HDN := Aside0.mk hdn; have n1_ := Aside0.mk (blk_below (g := gb) (o := .cells #[.slice none 0 0, .bool true] 78 (0, 0)) (by (with_reducible repeat (first | refine blk_drewN ?_ _ | refine blk_drew ?_ | refine blk_alloc ?_ _)); exact HBX.out) hb); have n0_ := Aside0.mk (below_step (by repeat (first | (with_reducible first | exact HB.out | apply below_alloc | apply pw_below_drewN | apply below_drew1) | exact HB.out)) hb); clear HB HBX; have HB := n0_; have HBX := n1_; clear n0_ n1_ hg hdn hb))
    go_loopg [13] (l0.length + 1) (fun kq v13 w' => ∃ (x : Int) (wl : World) (ds : List Int), v13 = .int .i64 x ∧ wl = w' ∧ Aside0 (x + kq = l0.length + 1) ∧ Aside0 (0 ≤ x ∧ x ≤ l0.length) ∧ Aside0 (ds.length = l0.length) ∧ Aside0 (∀ (q : Nat) (hq : q < ds.length), (q : Int) < x → ds[q] = -1) ∧ Aside0 (dn gd ds w') ∧ Aside0 (w'.heap[gb]? = some (.cells #[.slice none 0 0, .bool true] 78 (0, 0))) ∧ Aside0 (Below w.heap.size w w'))
    case atStart => exact ⟨0, _, List.replicate l0.length 0, (by first | rfl | (simp; done)), rfl, ⟨by omega⟩, ⟨by omega⟩, ⟨by simp⟩, ⟨fun q hq h => absurd h (by omega)⟩, ⟨HDN.out⟩, ⟨by (with_reducible repeat (first | refine blk_drewN ?_ _ | refine blk_drew ?_ | refine blk_alloc ?_ _)); exact HBX.out⟩, ⟨by repeat (first | (with_reducible first | exact HB.out | apply below_alloc | apply pw_below_drewN | apply below_drew1) | exact HB.out)⟩⟩
    case round =>
      clear HB HBX HDN
      obtain ⟨x, wl, ds, rfl, hwl, HM0, HI, LD, HS, HDN, HBX, HB⟩ := hrel
      subst hwl
      cases gk with
      | zero => exact absurd HM0.out (by have := HI.out; omega)
      | succ k1 =>
        by_cases c6 : x < (l0.length : Int)
        · have c6b0 : decide (x < (l0.length : Int)) = true := decide_eq_true c6
          have QI := Aside0.mk (show x < (ds.length : Int) by rw [LD.out]; exact c6)
          have p185 : (0 ≤ x) = True := eq_true HI.out.1
          have q185 := eq_true c6
          clear c6
          have hdd := dn_at HDN.out x HI.out.1 QI.out
          have hdf := dn_fr HDN.out x
          go_wp2
          go_roundg k1
          case measure => have := HM0.out; omega
          case rel =>
            have hw1 : wrap64 (x + 1) = x + 1 := by have := HL.out; have := HI.out; unfold wrap64; omega
            have hxl : x.toNat < ds.length := by have := QI.out; have := HI.out; omega
            exact ⟨wrap64 (x + 1), _, ds.set x.toNat (-1), rfl, rfl, ⟨by have := HM0.out; rw [hw1]; omega⟩, ⟨by rw [hw1]; have := HI.out; have := QI.out; rw [LD.out] at this; omega⟩, ⟨by rw [List.length_set]; exact LD.out⟩, ⟨fun q hq h => by
              rw [hw1] at h
              by_cases eq : q = x.toNat
              · subst eq; simp
              · rw [List.getElem_set_ne (fun e => eq e.symm)]
                exact HS.out q (by simpa using hq) (by have := HI.out; omega)⟩, ⟨dn_set HDN.out x.toNat (-1)⟩, ⟨blk_far HBX.out (p := ⟨gd, x.toNat, none⟩) (fun e => NE.out e.symm) _⟩, ⟨below_set HB.out HGD.out⟩⟩
        · have c6b0 : decide (x < (l0.length : Int)) = false := decide_eq_false c6
          have hds : ds = List.replicate l0.length (-1) := by
            apply List.ext_getElem
            · rw [LD.out]; simp
            · intro q h1 h2
              rw [HS.out q h1 (by have := HI.out; have := LD.out; omega)]
              simp
          clear c6
          rw [← hds] at HW
          clear hds
          go_wp2_with (first | ((with_reducible refine gate_callee (f := 119) rfl ?_); refine goesL_ (some 26) rfl rfl Try.func119 (by kernel_rfl) rfl #[.pointer (some ⟨gb, 0, none⟩), .slice A0 l0.length c0, .int .i64 j, .slice (some ⟨gd, 0, none⟩) l0.length l0.length] rfl (by (try simp only [List.map_toArray, List.map_cons, List.map_nil]); first | done | rfl) ?_; have HZ := once_calls k A0 c0 l0 j gb gd (fun q => q ≠ gb ∧ q ≠ gd) [] ds w wl r.1 r.2.1 r.2.2 HB.out ⟨none, 0, HBX.out, Kd.R_nil _ _ _ _ _⟩ HDN.out HGB.out HGD.out NE.out (fun hq => hq.1 rfl) (fun hq => hq.2 rfl) (fun q hq => by have := blk_lt HBX.out; have := blk_lt HDN.out; exact ⟨by omega, by omega⟩) HR0.out HC0.out LD.out HW.out; change Calls Try.prog 119 #[.pointer (some ⟨gb, 0, none⟩), .slice A0 l0.length c0, .int .i64 j, .slice (some ⟨gd, 0, none⟩) l0.length l0.length] _ _ at HZ; (with_reducible refine HZ.mono ?_); clear HZ; rintro e w4 ⟨rfl, hd, hdn, hb, hk⟩; refine ⟨_, rfl, ?_⟩; clear HB HBX; have HB := Aside0.mk hb; obtain ⟨A2, c2, hb2, hv2⟩ := hd; have HDV := Aside0.mk hv2; have hc20 : w4.cell? ⟨gb, 0, none⟩ = some (.slice A2 r.2.1.length c2) := (blk_cell hb2 0).trans rfl; clear hb hb2 hv2 hk hdn; skip))
          go_ret
          exact ⟨_, rfl, Kd.R_mono HDV.out (fun _ _ => trivial), HB.out⟩
  · rw [if_neg hl] at H
    cases H
end Go.Proofs.Ytecmlikhmkcdpaa.E
