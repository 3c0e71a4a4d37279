/- slices.Index at nodes: the first node that is the same. -/
import Derived.Test.YtecmlikhmkcdpaaEPutS
namespace Go.Proofs.Ytecmlikhmkcdpaa.E
open Go.RowKit Go.Proofs.YtecmlikhmkcdpaaW.PrintWords Go.Proofs.YtecmlikhmkcdpaaW.PrintLast Go.Proofs.YtecmlikhmkcdpaaW.PrintMore
attribute [local go_sem] max2_int min2_int max_two min_two max_three min_three max_four min_four
set_option linter.unusedVariables false
set_option linter.unusedSimpArgs false

/-- The index of the first node that is the same, or -1. -/
def idxN (X : S79) (nodes : List S79) : Int := match nodes.findIdx? (fun m => sameN m X) with
  | some j => (j : Int)
  | none => -1
theorem idxN_some {X : S79} {nodes : List S79} {i : Nat} (hi : i < nodes.length) (hs : sameN nodes[i] X = true) (hall : ∀ (j : Nat) (hj : j < nodes.length), j < i → sameN nodes[j] X = false) : idxN X nodes = (i : Int) := by
  have hf : nodes.findIdx? (fun m => sameN m X) = some i := List.findIdx?_eq_some_iff_getElem.2 ⟨hi, hs, fun j hj => by rw [hall j (by omega) hj]; decide⟩
  unfold idxN
  rw [hf]
theorem idxN_none {X : S79} {nodes : List S79} (hall : ∀ (j : Nat) (hj : j < nodes.length), sameN nodes[j] X = false) : idxN X nodes = -1 := by
  have hf : nodes.findIdx? (fun m => sameN m X) = none := List.findIdx?_eq_none_iff.2 (fun x hx => by
    obtain ⟨j, hj, rfl⟩ := List.mem_iff_getElem.1 hx
    exact hall j hj)
  unfold idxN
  rw [hf]
theorem same_comm (m X : S79) : sameN m X = (X.f0.toList == m.f0.toList && (X.f1 == m.f1 && (X.f2 == m.f2 && X.f3 == m.f3))) := by
  unfold sameN
  rw [Bool.eq_iff_iff]
  simp only [Bool.and_eq_true, beq_iff_eq]
  constructor <;> rintro ⟨a, b, c, d⟩ <;> exact ⟨a.symm, b.symm, c.symm, d.symm⟩
set_option maxHeartbeats 8000000 in
set_option maxRecDepth 100000 in
theorem index_calls (X : S79) (A : Option Addr) (c : Nat) (nodes : List S79) (W : World) (hr : Kd.C k79 W A nodes.length nodes) (hn : nodes.length < 1000) :
    Calls Try.prog 123 #[.slice A nodes.length c, .agg #[.string X.f0, .int .i64 X.f1, .int .i64 X.f2, .int .i64 X.f3]] W fun e w' => e = .returned (.int .i64 (idxN X nodes)) ∧ Below W.heap.size W w' := by
  have hu79 := Try.underlying79
  have HC0 := Aside0.mk hr
  have HN := Aside0.mk hn
  clear hr hn
  go_enter Try.func123, Try.ntmps123
  go_wp2_with (first | ((with_reducible refine gate_dst (N := 3) rfl ?_); refine box_event ?hg (N := 3) ?hd (cs := #[.string X.f0, .int .i64 X.f1, .int .i64 X.f2, .int .i64 X.f3]) (t := 79) ?hr ?_; (case hd => rfl); (case hg => rfl); (case hr => first | (go_simp; done) | (go_simp; rfl)); intro gn hg w1 hbox hb; have BN := Aside0.mk hbox; have HM := Aside0.mk hb; clear hg hbox hb))
  have HC1 := Aside0.mk (Kd.C_below HC0.out HM.out)
  go_loopg [8] (nodes.length + 1) (fun kq v8 w' => ∃ (x : Int) (wl : World), v8 = .int .i64 x ∧ wl = w' ∧ Aside0 (x + kq = nodes.length + 1) ∧ Aside0 (0 ≤ x ∧ x ≤ nodes.length) ∧ Aside0 (∀ (j : Nat) (hj : j < nodes.length), (j : Int) < x → sameN nodes[j] X = false) ∧ Aside0 (Below w1.heap.size w1 w'))
  case atStart => exact ⟨0, _, (by first | rfl | (simp; done)), rfl, ⟨by omega⟩, ⟨by omega⟩, ⟨fun j hj h => absurd h (by omega)⟩, ⟨by repeat (first | exact Below.refl _ _ | apply below_drew1 | apply pw_below_drewN)⟩⟩
  case round =>
    obtain ⟨x, wl, rfl, hwl, HM0, HI, HS, HW⟩ := hrel
    subst hwl
    cases gk with
    | zero => exact absurd HM0.out (by have := HI.out; omega)
    | succ k1 =>
      have BNw := Aside0.mk (blk_below BN.out HW.out)
      by_cases c6 : x < (nodes.length : Int)
      · have c6b0 : decide (x < (nodes.length : Int)) = true := decide_eq_true c6
        have hi : x.toNat < nodes.length := by have := HI.out; omega
        have hrd : rd_T79 nodes x = nodes[x.toNat] := by
          unfold rd_T79
          simp [List.getD_eq_getElem?_getD, hi]
        have HRD := Aside0.mk hrd
        have HHI := Aside0.mk hi
        clear hrd
        have p185 : 0 ≤ x := HI.out.1
        obtain ⟨ad, e185, hx0, hx1, hx2, hx3⟩ := at_T79 HC1.out x p185 c6
        have EA := Aside0.mk e185
        subst e185
        replace hx0 := pw_cell_below HW.out hx0
        replace hx1 := pw_cell_below HW.out hx1
        replace hx2 := pw_cell_below HW.out hx2
        replace hx3 := pw_cell_below HW.out hx3
        replace p185 := eq_true p185
        have q185 := eq_true c6
        clear c6
        have hg0 : wl.cell? ⟨gn, 0, none⟩ = some (.string X.f0) := (blk_cell BNw.out 0).trans rfl
        have hg1 : wl.cell? ⟨gn, 1, none⟩ = some (.int .i64 X.f1) := (blk_cell BNw.out 1).trans rfl
        have hg2 : wl.cell? ⟨gn, 2, none⟩ = some (.int .i64 X.f2) := (blk_cell BNw.out 2).trans rfl
        have hg3 : wl.cell? ⟨gn, 3, none⟩ = some (.int .i64 X.f3) := (blk_cell BNw.out 3).trans rfl
        by_cases q0 : (rd_T79 nodes x).f0.toList = X.f0.toList
        · by_cases q1 : (rd_T79 nodes x).f1 = X.f1
          · by_cases q2 : (rd_T79 nodes x).f2 = X.f2
            · by_cases q3 : (rd_T79 nodes x).f3 = X.f3
              · have hs : sameN nodes[x.toNat] X = true := by
                  rw [← HRD.out, same_comm]
                  simp [q0, q1, q2, q3]
                have HST := Aside0.mk hs
                clear hs
                go_wp2
                go_region
                all_goals go_wp2
                all_goals go_ret
                all_goals
                  have hi := HHI.out
                  refine ⟨?_, below_step HM.out (by repeat (first | (with_reducible first | exact HW.out | apply below_alloc | apply pw_below_drewN | apply below_drew1) | exact HW.out))⟩
                  show Ending.returned (Value.int .i64 x) = _
                  rw [idxN_some hi HST.out (fun j hj h => HS.out j hj (by have := HI.out; omega)), Int.toNat_of_nonneg HI.out.1]
              · replace q3 : ¬ X.f3 = (rd_T79 nodes x).f3 := fun e => q3 e.symm
                have hs : sameN nodes[x.toNat] X = false := by
                  rw [← HRD.out, same_comm]
                  simp [q0, q1, q2, q3]
                have HSF := Aside0.mk hs
                clear hs
                go_wp2
                go_region
                all_goals go_wp2
                all_goals
                  go_roundg k1
                  case measure => have := HM0.out; omega
                  case rel =>
                    have hs := HSF.out
                    have hw1 : wrap64 (x + 1) = x + 1 := by have := HN.out; have := HI.out; unfold wrap64; omega
                    exact ⟨wrap64 (x + 1), _, rfl, rfl, ⟨by have := HM0.out; rw [hw1]; omega⟩, ⟨by rw [hw1]; have := HHI.out; have := HI.out; omega⟩, ⟨fun j hj h => by
                      rw [hw1] at h
                      rcases Int.lt_or_le (j : Int) x with h2 | h2
                      · exact HS.out j hj h2
                      · obtain rfl : j = x.toNat := by omega
                        exact hs⟩, ⟨by repeat (first | (with_reducible first | exact HW.out | apply below_alloc | apply pw_below_drewN | apply below_drew1) | exact HW.out)⟩⟩
            · replace q2 : ¬ X.f2 = (rd_T79 nodes x).f2 := fun e => q2 e.symm
              have hs : sameN nodes[x.toNat] X = false := by
                rw [← HRD.out, same_comm]
                simp [q0, q1, q2]
              have HSF := Aside0.mk hs
              clear hs
              go_wp2
              go_region
              all_goals go_wp2
              all_goals
                go_roundg k1
                case measure => have := HM0.out; omega
                case rel =>
                  have hs := HSF.out
                  have hw1 : wrap64 (x + 1) = x + 1 := by have := HN.out; have := HI.out; unfold wrap64; omega
                  exact ⟨wrap64 (x + 1), _, rfl, rfl, ⟨by have := HM0.out; rw [hw1]; omega⟩, ⟨by rw [hw1]; have := HHI.out; have := HI.out; omega⟩, ⟨fun j hj h => by
                    rw [hw1] at h
                    rcases Int.lt_or_le (j : Int) x with h2 | h2
                    · exact HS.out j hj h2
                    · obtain rfl : j = x.toNat := by omega
                      exact hs⟩, ⟨by repeat (first | (with_reducible first | exact HW.out | apply below_alloc | apply pw_below_drewN | apply below_drew1) | exact HW.out)⟩⟩
          · replace q1 : ¬ X.f1 = (rd_T79 nodes x).f1 := fun e => q1 e.symm
            have hs : sameN nodes[x.toNat] X = false := by
              rw [← HRD.out, same_comm]
              simp [q0, q1]
            have HSF := Aside0.mk hs
            clear hs
            go_wp2
            go_region
            all_goals go_wp2
            all_goals
              go_roundg k1
              case measure => have := HM0.out; omega
              case rel =>
                have hs := HSF.out
                have hw1 : wrap64 (x + 1) = x + 1 := by have := HN.out; have := HI.out; unfold wrap64; omega
                exact ⟨wrap64 (x + 1), _, rfl, rfl, ⟨by have := HM0.out; rw [hw1]; omega⟩, ⟨by rw [hw1]; have := HHI.out; have := HI.out; omega⟩, ⟨fun j hj h => by
                  rw [hw1] at h
                  rcases Int.lt_or_le (j : Int) x with h2 | h2
                  · exact HS.out j hj h2
                  · obtain rfl : j = x.toNat := by omega
                    exact hs⟩, ⟨by repeat (first | (with_reducible first | exact HW.out | apply below_alloc | apply pw_below_drewN | apply below_drew1) | exact HW.out)⟩⟩
        · replace q0 : ¬ X.f0.toList = (rd_T79 nodes x).f0.toList := fun e => q0 e.symm
          have hs : sameN nodes[x.toNat] X = false := by
            rw [← HRD.out, same_comm]
            simp [q0]
          have HSF := Aside0.mk hs
          clear hs
          go_wp2
          go_region
          all_goals go_wp2
          all_goals
            go_roundg k1
            case measure => have := HM0.out; omega
            case rel =>
              have hs := HSF.out
              have hw1 : wrap64 (x + 1) = x + 1 := by have := HN.out; have := HI.out; unfold wrap64; omega
              exact ⟨wrap64 (x + 1), _, rfl, rfl, ⟨by have := HM0.out; rw [hw1]; omega⟩, ⟨by rw [hw1]; have := HHI.out; have := HI.out; omega⟩, ⟨fun j hj h => by
                rw [hw1] at h
                rcases Int.lt_or_le (j : Int) x with h2 | h2
                · exact HS.out j hj h2
                · obtain rfl : j = x.toNat := by omega
                  exact hs⟩, ⟨by repeat (first | (with_reducible first | exact HW.out | apply below_alloc | apply pw_below_drewN | apply below_drew1) | exact HW.out)⟩⟩
      · have c6b0 : decide (x < (nodes.length : Int)) = false := decide_eq_false c6
        have hin : x = nodes.length := by have := HI.out; omega
        have HIN := Aside0.mk hin
        clear c6 hin
        go_wp2
        go_ret
        refine ⟨?_, below_step HM.out (by repeat (first | (with_reducible first | exact HW.out | apply below_alloc | apply pw_below_drewN | apply below_drew1) | exact HW.out))⟩
        rw [idxN_none (fun j hj => HS.out j hj (by rw [HIN.out]; omega))]
        rfl
end Go.Proofs.Ytecmlikhmkcdpaa.E
