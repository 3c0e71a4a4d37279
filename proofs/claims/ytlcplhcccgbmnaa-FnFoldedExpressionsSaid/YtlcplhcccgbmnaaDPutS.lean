/- exBuilt.put where nodes are shared: the node is looked for, and added if it is not there. -/
import Derived.Test.YtlcplhcccgbmnaaDPut
namespace Go.Proofs.Ytlcplhcccgbmnaa.D
open Go.RowKit Go.Proofs.YtlcplhcccgbmnaaW.PrintWords Go.Proofs.YtlcplhcccgbmnaaW.PrintLast Go.Proofs.YtlcplhcccgbmnaaW.PrintMore
attribute [local go_sem] max2_int min2_int max_two min_two max_three min_three max_four min_four
set_option linter.unusedVariables false
set_option linter.unusedSimpArgs false

/-- Two nodes are the same. -/
def sameN (m X : S47) : Bool := (m.f0.toList == X.f0.toList && (m.f1 == X.f1 && (m.f2 == X.f2 && (m.f3 == X.f3))))
set_option maxHeartbeats 8000000 in
set_option maxRecDepth 100000 in
theorem put_share (X : S47) (gb : Nat) (ok : Nat → Prop) (nodes : List S47) (w0 W : World) (hB : Below w0.heap.size w0 W) (hd : bld gb w0.heap.size ok true nodes W) (hgb : w0.heap.size ≤ gb) (hok : ¬ ok gb) (hfr : ∀ k, W.heap.size ≤ k → ok k) (hn : nodes.length < 1000) :
  Calls Try.prog 129 #[.pointer (some ⟨gb, 0, none⟩), .agg #[.string X.f0, .int .i64 X.f1, .int .i64 X.f2, .int .i64 X.f3]] W fun e w' => Below w0.heap.size w0 w' ∧ Kept W w' (fun k => k = gb ∨ ok k) ∧
   ((∃ (i : Nat) (hi : i < nodes.length), e = .returned (.int .i64 (i : Int)) ∧ sameN nodes[i] X = true ∧ (∀ (j : Nat) (hj : j < nodes.length), j < i → sameN nodes[j] X = false) ∧ bld gb w0.heap.size ok true nodes w')
    ∨ (e = .returned (.int .i64 (nodes.length : Int)) ∧ (∀ (j : Nat) (hj : j < nodes.length), sameN nodes[j] X = false) ∧ bld gb w0.heap.size ok true (nodes ++ [X]) w')) := by
 obtain ⟨A, c, hb, hv⟩ := hd
 have HOK := zK hok
 have HFR := zK hfr
 clear hok hfr
 have hu47 := Try.underlying47
 have hlt : gb < W.heap.size := (Array.getElem?_eq_some_iff.1 hb).1
 have HBX := zK hb
 have HV := zK hv
 have HB := zK hB
 have HLT := zK hlt
 have HGB := zK hgb
 have HN := zK hn
 clear hb hv hB hlt hgb hn
 go_enter Try.func129, Try.ntmps129
 go_wp2_with (first | ((with_reducible refine gate_dst (N := 3) rfl ?_); refine box_event ?hg (N := 3) ?hd (cs := #[.string X.f0, .int .i64 X.f1, .int .i64 X.f2, .int .i64 X.f3]) (t := 47) ?hr ?_; (case hd | hg => rfl); (case hr => exact xxa); intro gn hg w1 hbox hb; have BN := zK hbox; have GN := zK hg; have HM := zK hb; clear hg hbox hb; have hbx := zM HBX.out HM.out; have hc1 : w1.cell? ⟨gb, 1, none⟩ = some (.bool true) := (zI hbx 1).trans rfl; have hc0 : w1.cell? ⟨gb, 0, none⟩ = some (.slice A nodes.length c) := (zI hbx 0).trans rfl; have hf0 := zH hbx 0; have hf1 := zH hbx 1; have HBX1 := zK hbx; clear hbx))
 have HVN := zK (Kd.R_below HV.out HM.out)
 have HC1 := zK (Kd.R_reads' HVN.out).2.2
 have HB1 := zK (show Below w0.heap.size w0 w1 from zL HB.out HM.out)
 clear hc1 hc0 hf0 hf1
 go_loopg [16] (nodes.length + 1) (fun kq v16 w' => ∃ (x : Int) (wl : World), v16 = .int .i64 x ∧ wl = w' ∧ Aside0 (x + kq = nodes.length + 1) ∧ Aside0 (0 ≤ x ∧ x ≤ nodes.length) ∧ Aside0 (∀ (j : Nat) (hj : j < nodes.length), (j : Int) < x → sameN nodes[j] X = false) ∧ Aside0 (Below w1.heap.size w1 w'))
 case atStart => exact ⟨0, _, (by first | rfl | (simp; done)), rfl, ⟨by omega⟩, ⟨by omega⟩, ⟨fun j hj h => absurd h (by omega)⟩, ⟨by repeat (first | exact Below.refl _ _ | apply zC | apply zB)⟩⟩
 case round =>
  obtain ⟨x, wl, rfl, hwl, HM0, HI, HS, HW⟩ := hrel
  subst hwl
  cases gk with
  | zero => exact absurd HM0.out (by have := HI.out; omega)
  | succ k1 =>
   have BNw := zK (zM BN.out HW.out)
   by_cases c6 : x < (nodes.length : Int)
   ·have c6b0 : decide (x < (nodes.length : Int)) = true := decide_eq_true c6
    have hi : x.toNat < nodes.length := by have := HI.out; omega
    have hrd : rd_T47 nodes x = nodes[x.toNat] := by
     unfold rd_T47
     simp [List.getD_eq_getElem?_getD, hi]
    have HRD := zK hrd
    have HHI := zK hi
    clear hrd
    have p185 : 0 ≤ x := HI.out.1
    obtain ⟨ad, e185, hx0, hx1, hx2, hx3⟩ := at_T47 HC1.out x p185 c6
    have EA := zK e185
    subst e185
    replace hx0 := pw_cell_below HW.out hx0
    replace hx1 := pw_cell_below HW.out hx1
    replace hx2 := pw_cell_below HW.out hx2
    replace hx3 := pw_cell_below HW.out hx3
    replace p185 := eq_true p185
    have q185 := eq_true c6
    clear c6
    by_cases c9 : (((rd_T47 nodes x).f0.toList) == X.f0.toList && (((rd_T47 nodes x).f1) == X.f1 && (((rd_T47 nodes x).f2) == X.f2 && (((rd_T47 nodes x).f3) == X.f3)))) = true
    ·have c9b0 : (((rd_T47 nodes x).f0.toList) == X.f0.toList && (((rd_T47 nodes x).f1) == X.f1 && (((rd_T47 nodes x).f2) == X.f2 && (((rd_T47 nodes x).f3) == X.f3)))) = true := c9
     (try (have c9b2 : (((rd_T47 nodes x).f0.toList) == X.f0.toList && (((rd_T47 nodes x).f1) == X.f1 && (((rd_T47 nodes x).f2) == X.f2 && (((rd_T47 nodes x).f3) == X.f3)))) = true := by simpa using c9))
     have C9 := zK c9
     clear c9
     have hg0 : (wl.alloc (.cells #[.string (rd_T47 nodes x).f0, .int .i64 (rd_T47 nodes x).f1, .int .i64 (rd_T47 nodes x).f2, .int .i64 (rd_T47 nodes x).f3] 47 (0, 0))).cell? ⟨gn, 0, none⟩ = some (.string X.f0) := (zI (zG BNw.out _) 0).trans rfl
     have hg1 : (wl.alloc (.cells #[.string (rd_T47 nodes x).f0, .int .i64 (rd_T47 nodes x).f1, .int .i64 (rd_T47 nodes x).f2, .int .i64 (rd_T47 nodes x).f3] 47 (0, 0))).cell? ⟨gn, 1, none⟩ = some (.int .i64 X.f1) := (zI (zG BNw.out _) 1).trans rfl
     have hg2 : (wl.alloc (.cells #[.string (rd_T47 nodes x).f0, .int .i64 (rd_T47 nodes x).f1, .int .i64 (rd_T47 nodes x).f2, .int .i64 (rd_T47 nodes x).f3] 47 (0, 0))).cell? ⟨gn, 2, none⟩ = some (.int .i64 X.f2) := (zI (zG BNw.out _) 2).trans rfl
     have hg3 : (wl.alloc (.cells #[.string (rd_T47 nodes x).f0, .int .i64 (rd_T47 nodes x).f1, .int .i64 (rd_T47 nodes x).f2, .int .i64 (rd_T47 nodes x).f3] 47 (0, 0))).cell? ⟨gn, 3, none⟩ = some (.int .i64 X.f3) := (zI (zG BNw.out _) 3).trans rfl
     go_wp2
     any_goals (exfalso; have h9 := C9.out; simp only [Bool.and_eq_true, beq_iff_eq] at h9; simp_all; done)
     go_ret
     have hi := HHI.out
     have hs : sameN nodes[x.toNat] X = true := by rw [← HRD.out]; exact C9.out
     refine ⟨zL HB1.out ?b, ⟨?z, fun j hj _ => ?k⟩, .inl ⟨x.toNat, (by show Ending.returned (Value.int .i64 x) = _; rw [Int.toNat_of_nonneg HI.out.1]), ⟨hi, hs⟩, fun j hj h => HS.out j hj (by have := HI.out; omega), ?d⟩⟩
     case b => exact yf2
     case z => exact Nat.le_trans HM.out.size (zN yf2)
     case k => exact (Below.block (B := w1.heap.size) (w := w1) yf2 j (Nat.lt_of_lt_of_le hj HM.out.size)).trans (HM.out.block j hj)
     case d => exact ⟨_, c, (Below.block (B := w1.heap.size) (w := w1) yf2 gb (Nat.lt_of_lt_of_le HLT.out HM.out.size)).trans HBX1.out, Kd.R_below HVN.out yf2⟩
    ·have c9b0 : (((rd_T47 nodes x).f0.toList) == X.f0.toList && (((rd_T47 nodes x).f1) == X.f1 && (((rd_T47 nodes x).f2) == X.f2 && (((rd_T47 nodes x).f3) == X.f3)))) = false := by simpa using c9
     (try (have c9b2 : (((rd_T47 nodes x).f0.toList) == X.f0.toList && (((rd_T47 nodes x).f1) == X.f1 && (((rd_T47 nodes x).f2) == X.f2 && (((rd_T47 nodes x).f3) == X.f3)))) = false := by simpa using c9))
     have C9 := zK c9b0
     clear c9
     have hg0 : (wl.alloc (.cells #[.string (rd_T47 nodes x).f0, .int .i64 (rd_T47 nodes x).f1, .int .i64 (rd_T47 nodes x).f2, .int .i64 (rd_T47 nodes x).f3] 47 (0, 0))).cell? ⟨gn, 0, none⟩ = some (.string X.f0) := (zI (zG BNw.out _) 0).trans rfl
     have hg1 : (wl.alloc (.cells #[.string (rd_T47 nodes x).f0, .int .i64 (rd_T47 nodes x).f1, .int .i64 (rd_T47 nodes x).f2, .int .i64 (rd_T47 nodes x).f3] 47 (0, 0))).cell? ⟨gn, 1, none⟩ = some (.int .i64 X.f1) := (zI (zG BNw.out _) 1).trans rfl
     have hg2 : (wl.alloc (.cells #[.string (rd_T47 nodes x).f0, .int .i64 (rd_T47 nodes x).f1, .int .i64 (rd_T47 nodes x).f2, .int .i64 (rd_T47 nodes x).f3] 47 (0, 0))).cell? ⟨gn, 2, none⟩ = some (.int .i64 X.f2) := (zI (zG BNw.out _) 2).trans rfl
     have hg3 : (wl.alloc (.cells #[.string (rd_T47 nodes x).f0, .int .i64 (rd_T47 nodes x).f1, .int .i64 (rd_T47 nodes x).f2, .int .i64 (rd_T47 nodes x).f3] 47 (0, 0))).cell? ⟨gn, 3, none⟩ = some (.int .i64 X.f3) := (zI (zG BNw.out _) 3).trans rfl
     go_wp2
     any_goals (exfalso; have h9 := C9.out; simp_all; done)
     all_goals
      go_roundg k1
      case measure => have := HM0.out; omega
      case rel =>
       have hs : sameN nodes[x.toNat] X = false := by rw [← HRD.out]; exact C9.out
       have hw1 : wrap64 (x + 1) = x + 1 := by have := HN.out; have := HI.out; unfold wrap64; omega
       exact ⟨wrap64 (x + 1), _, rfl, rfl, ⟨by have := HM0.out; rw [hw1]; omega⟩, ⟨by rw [hw1]; have := HHI.out; have := HI.out; omega⟩, ⟨fun j hj h => by
        rw [hw1] at h
        rcases Int.lt_or_le (j : Int) x with h2 | h2
        ·exact HS.out j hj h2
        ·obtain rfl : j = x.toNat := by omega
         exact hs⟩, ⟨yf2⟩⟩
   ·have c6b0 : decide (x < (nodes.length : Int)) = false := decide_eq_false c6
    have hin : x = nodes.length := by have := HI.out; omega
    have HIN := zK hin
    clear c6 hin
    have HBXw := zK (zM HBX1.out HW.out)
    have HVw := zK (Kd.R_below HVN.out HW.out)
    have HBw := zK (show Below w0.heap.size w0 wl.drew from below_drew (zL HB1.out HW.out))
    have HZ := zK (show ∀ k, wl.heap.size ≤ k → ok k from fun k hk => HFR.out k (Nat.le_trans HM.out.size (Nat.le_trans HW.out.size hk)))
    have HL := zK (show (nodes.length + 1) * 40 ≤ 140737488355328 from by have := HN.out; omega)
    have hc0 : wl.cell? ⟨gb, 0, none⟩ = some (.slice A nodes.length c) := (zI HBXw.out 0).trans rfl
    have hf0 := zH HBXw.out 0
    have hcn0 : wl.cell? ⟨gn, 0, none⟩ = some (.string X.f0) := (zI BNw.out 0).trans rfl
    have hfn0 := zH BNw.out 0
    have hcn1 : wl.cell? ⟨gn, 1, none⟩ = some (.int .i64 X.f1) := (zI BNw.out 1).trans rfl
    have hfn1 := zH BNw.out 1
    have hcn2 : wl.cell? ⟨gn, 2, none⟩ = some (.int .i64 X.f2) := (zI BNw.out 2).trans rfl
    have hfn2 := zH BNw.out 2
    have hcn3 : wl.cell? ⟨gn, 3, none⟩ = some (.int .i64 X.f3) := (zI BNw.out 3).trans rfl
    have hfn3 := zH BNw.out 3
    have ha0 : (wl.alloc (.cells #[.string X.f0, .int .i64 X.f1, .int .i64 X.f2, .int .i64 X.f3] 47 (0, 0))).cell? ⟨gb, 0, none⟩ = some (.slice A nodes.length c) := (zI (zG HBXw.out _) 0).trans rfl
    go_wp2
    go_region_law (refine Kd.R_append_step k47 (w0 := w0) (W := wl.drew) w0.heap.size rfl (.tmp 30) (.tmp 32) 24 47 (.agg #[(.string ⟨#[]⟩), (.int .i64 0), (.int .i64 0), (.int .i64 0)]) 40 rfl Try.underlying24 info47 rfl yp1 (by omega) (.slice A nodes.length c) nodes X [.string X.f0, .int .i64 X.f1, .int .i64 X.f2, .int .i64 X.f3] ok (fun _ => False) rfl rfl (k47_mkM _ _ _ X) (fun _ hk => hk.elim) HZ.out HVw.out HBw.out HBw.out.size HL.out ?_; intro v1 w2 hr hb2 hg hat; obtain ⟨A2, c2, rfl⟩ := Kd.R_slice hr; have HR2 := zK hr; have HB2 := zK hb2; have HX2 := zK (put_kept HBXw.out HOK.out HVw.out hg); have hc2 : w2.cell? ⟨gb, 0, none⟩ = some (.slice A nodes.length c) := (zI HX2.out 0).trans rfl; have hf2 := zH HX2.out 0; have HK2 := zK (show Kept W w2 (fun k => k = gb ∨ ok k) from ⟨Nat.le_trans HM.out.size (Nat.le_trans HW.out.size hg.size), fun i hi hs => (hg.block i (Nat.lt_of_lt_of_le hi (Nat.le_trans HM.out.size HW.out.size)) (fun e => hs (.inr (HVw.out.1 i e.symm)))).trans ((HW.out.block i (Nat.lt_of_lt_of_le hi HM.out.size)).trans (HM.out.block i hi))⟩); clear hr hb2 hg hat)
    all_goals go_wp2
    all_goals go_ret
    all_goals
     have hn := HN.out
     refine ⟨HB2.out.setCell HGB.out _, ⟨?_, fun i hi hs => ?_⟩, .inr ⟨?_, fun j hj => HS.out j hj (by rw [HIN.out]; omega), ⟨A2, c2, ?_, ?_⟩⟩⟩
     ·have := HK2.out.1
      simpa [World.setCell] using this
     ·exact (Below.heap_setCell w2 ⟨gb, 0, none⟩ _ i (fun e => hs (.inl e))).trans (HK2.out.2 i hi hs)
     ·show Ending.returned (.int .i64 (wrap64 (nodes.length : Int))) = _
      rw [show wrap64 (nodes.length : Int) = (nodes.length : Int) by unfold wrap64; omega]
     ·have := blk_set HX2.out 0 (.slice A2 (nodes ++ [X]).length c2)
      rw [List.length_append] at this ⊢
      exact this
     ·exact Kd.R_far (p := ⟨gb, 0, none⟩) HR2.out (fun k hk e => HOK.out (by have e : k = gb := e; rw [← e]; exact hk)) _
end Go.Proofs.Ytlcplhcccgbmnaa.D
