/- exBuilt.put: a node is added to what is built. -/
import Derived.Test.YtlcplhcccgbmnaaDSpecExGood
import Derived.RegionTactic
import Derived.BigRegion
import Derived.Deep.RegionLaw
namespace Go.Proofs.Ytlcplhcccgbmnaa.D
open Go.RowKit Go.Proofs.YtlcplhcccgbmnaaW.PrintWords Go.Proofs.YtlcplhcccgbmnaaW.PrintLast Go.Proofs.YtlcplhcccgbmnaaW.PrintMore
attribute [local go_sem] max2_int min2_int max_two min_two max_three min_three max_four min_four
set_option linter.unusedVariables false
set_option linter.unusedSimpArgs false

theorem put_kept {gb base e t : Nat} {ok : Nat → Prop} {v : Value} {nodes : List S47} {W w2 : World} {cs : Array Value} (hb : W.heap[gb]? = some (.cells cs t (0, 0))) (hok : ¬ ok gb) (hv : Kd.R k47 e W base ok v nodes) (hg : W.drew.grownBy w2 v.ownBlock) : w2.heap[gb]? = some (.cells cs t (0, 0)) :=
 (hg.block gb (Array.getElem?_eq_some_iff.1 hb).1 (fun e => hok (hv.1 gb e.symm))).trans hb
/-- What is built so far: the struct behind its pointer, and its list. -/
def bld (gb base : Nat) (ok : Nat → Prop) (sh : Bool) (nodes : List S47) (W : World) : Prop := ∃ A c, W.heap[gb]? = some (.cells #[.slice A nodes.length c, .bool sh] 92 (0, 0)) ∧ Kd.R k47 47 W base ok (.slice A nodes.length c) nodes
set_option maxHeartbeats 8000000 in
set_option maxRecDepth 100000 in
theorem put_new (X : S47) (gb : Nat) (ok : Nat → Prop) (nodes : List S47) (w0 W : World) (hB : Below w0.heap.size w0 W) (hd : bld gb w0.heap.size ok false nodes W) (hgb : w0.heap.size ≤ gb) (hok : ¬ ok gb) (hfr : ∀ k, W.heap.size ≤ k → ok k) (hn : nodes.length < 1000) :
  Calls Try.prog 129 #[.pointer (some ⟨gb, 0, none⟩), .agg #[.string X.f0, .int .i64 X.f1, .int .i64 X.f2, .int .i64 X.f3]] W fun e w' => e = .returned (.int .i64 (nodes.length : Int)) ∧ bld gb w0.heap.size ok false (nodes ++ [X]) w' ∧ Below w0.heap.size w0 w' ∧ Kept W w' (fun k => k = gb ∨ ok k) := by
 obtain ⟨A, c, hb, hv⟩ := hd
 have HOK := zK hok
 have HFR := zK hfr
 clear hok hfr
 have hu47 := Try.underlying47
 have hlt : gb < W.heap.size := (Array.getElem?_eq_some_iff.1 hb).1
 have HBX := zK hb
 have HV := zK hv
 have HB := zK hB
 have HLT := zK hlt
 have HGB := zK hgb
 have HN := zK hn
 clear hb hv hB hlt hgb hn
 go_enter Try.func129, Try.ntmps129
 go_wp2_with (first | ((with_reducible refine gate_dst (N := 3) rfl ?_); refine box_event ?hg (N := 3) ?hd (cs := #[.string X.f0, .int .i64 X.f1, .int .i64 X.f2, .int .i64 X.f3]) (t := 47) ?hr ?_; (case hd | hg => rfl); (case hr => exact xxa); intro gn hg w1 hbox hb; have BN := zK hbox; have GN := zK hg; have HM := zK hb; clear hg hbox hb; have hcn0 : w1.cell? ⟨gn, 0, none⟩ = some (.string X.f0) := (zI BN.out 0).trans rfl; have hfn0 := zH BN.out 0; have hcn1 : w1.cell? ⟨gn, 1, none⟩ = some (.int .i64 X.f1) := (zI BN.out 1).trans rfl; have hfn1 := zH BN.out 1; have hcn2 : w1.cell? ⟨gn, 2, none⟩ = some (.int .i64 X.f2) := (zI BN.out 2).trans rfl; have hfn2 := zH BN.out 2; have hcn3 : w1.cell? ⟨gn, 3, none⟩ = some (.int .i64 X.f3) := (zI BN.out 3).trans rfl; have hfn3 := zH BN.out 3; have hbx := zM HBX.out HM.out; have hc1 : w1.cell? ⟨gb, 1, none⟩ = some (.bool false) := (zI hbx 1).trans rfl; have hc0 : w1.cell? ⟨gb, 0, none⟩ = some (.slice A nodes.length c) := (zI hbx 0).trans rfl; have hf0 := zH hbx 0; have hf1 := zH hbx 1; have HBX1 := zK hbx; clear hbx))
 have HVN := zK (Kd.R_below HV.out HM.out)
 have HB1 := zK (show Below w0.heap.size w0 w1.drew from below_drew (zL HB.out HM.out))
 have HZ := zK (show ∀ k, w1.heap.size ≤ k → ok k from fun k hk => HFR.out k (Nat.le_trans HM.out.size hk))
 have HL := zK (show (nodes.length + 1) * 40 ≤ 140737488355328 from by have := HN.out; omega)
 have ha0 : (w1.alloc (.cells #[.string X.f0, .int .i64 X.f1, .int .i64 X.f2, .int .i64 X.f3] 47 (0, 0))).cell? ⟨gb, 0, none⟩ = some (.slice A nodes.length c) := (zI (zG HBX1.out _) 0).trans rfl
 go_region_law (refine Kd.R_append_step k47 (w0 := w0) (W := w1.drew) w0.heap.size rfl (.tmp 30) (.tmp 32) 24 47 (.agg #[(.string ⟨#[]⟩), (.int .i64 0), (.int .i64 0), (.int .i64 0)]) 40 rfl Try.underlying24 info47 rfl yp1 (by omega) (.slice A nodes.length c) nodes X [.string X.f0, .int .i64 X.f1, .int .i64 X.f2, .int .i64 X.f3] ok (fun _ => False) rfl rfl (k47_mkM _ _ _ X) (fun _ hk => hk.elim) HZ.out HVN.out HB1.out HB1.out.size HL.out ?_; intro v1 w2 hr hb2 hg hat; obtain ⟨A2, c2, rfl⟩ := Kd.R_slice hr; have HR2 := zK hr; have HB2 := zK hb2; have HX2 := zK (put_kept HBX1.out HOK.out HVN.out hg); have hc2 : w2.cell? ⟨gb, 0, none⟩ = some (.slice A nodes.length c) := (zI HX2.out 0).trans rfl; have hf2 := zH HX2.out 0; have HK2 := zK (show Kept W w2 (fun k => k = gb ∨ ok k) from ⟨Nat.le_trans HM.out.size hg.size, fun i hi hs => (hg.block i (Nat.lt_of_lt_of_le hi HM.out.size) (fun e => hs (.inr (HVN.out.1 i e.symm)))).trans (HM.out.block i hi)⟩); clear hr hb2 hg hat)
 all_goals go_wp2
 all_goals go_ret
 all_goals
  have hn := HN.out
  refine ⟨?_, ⟨A2, c2, ?_, ?_⟩, HB2.out.setCell HGB.out _, ⟨?_, fun i hi hs => ?_⟩⟩
  ·show Ending.returned (.int .i64 (wrap64 (nodes.length : Int))) = _
   rw [show wrap64 (nodes.length : Int) = (nodes.length : Int) by unfold wrap64; omega]
  ·have := blk_set HX2.out 0 (.slice A2 (nodes ++ [X]).length c2)
   rw [List.length_append] at this ⊢
   exact this
  ·exact Kd.R_far (p := ⟨gb, 0, none⟩) HR2.out (fun k hk e => HOK.out (by have e : k = gb := e; rw [← e]; exact hk)) _
  ·have := HK2.out.1
   simpa [World.setCell] using this
  ·exact (Below.heap_setCell w2 ⟨gb, 0, none⟩ _ i (fun e => hs (.inl e))).trans (HK2.out.2 i hi hs)
end Go.Proofs.Ytlcplhcccgbmnaa.D
