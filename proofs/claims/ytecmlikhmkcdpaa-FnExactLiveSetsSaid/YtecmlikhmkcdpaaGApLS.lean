/- The sets that are alive before each instruction, with rows that lie apart. -/
import Derived.Test.YtecmlikhmkcdpaaGApart
import Derived.Test.YtecmlikhmkcdpaaGImplInstrReads
namespace Go.Proofs.Ytecmlikhmkcdpaa.G
open Go.RowKit Go.Proofs.YtecmlikhmkcdpaaW.PrintWords Go.Proofs.YtecmlikhmkcdpaaW.PrintLast Go.Proofs.YtecmlikhmkcdpaaW.PrintMore
attribute [local go_sem] max2_int min2_int max_two min_two max_three min_three max_four min_four
set_option linter.unusedVariables false
set_option linter.unusedSimpArgs false

theorem hand_rows_ap {n base g : Nat} {V : Nat → Value} {Ls : Nat → List Int} {Fo : Nat → Nat} {W : World} (h : impl_liveSets.hand_rows n base g V Ls Fo W) (hg : base ≤ g) : rowsap (n + 1) base g (some ⟨g, 0, none⟩) V Ls Fo W := by
  refine ⟨fun _ => ⟨rfl, hg, _, h.1, fun j hj => ?_⟩, fun j hj => impl_liveSets.hand_types (h.2 j (by omega)) h.1⟩
  simp [hj]
set_option maxHeartbeats 8000000 in
set_option maxRecDepth 100000 in
theorem impl_LiveSets.hand_ap (k : Nat) (A0 : Option Addr) (c0 : Nat) (l0 : List (S67)) (A1 : Option Addr) (c1 : Nat) (l1 : List Int) (r1 : List (List Int)) (r2 : Bool) (w : World) (hr0 : Kd.C k67 w A0 l0.length l0) (hc0 : l0.length ≤ c0) (hr1 : Kd.C (Kd.int .i64) w A1 l1.length l1) (hc1 : l1.length ≤ c1) (h : impl_LiveSets.f k l0 l1 = some (r1, r2)) :
    Calls Try.prog 54 #[.slice A0 l0.length c0, .slice A1 l1.length c1] w (apRes r2 r1 w) := by
  have HR0 := zK hr0
  have HC0 := zK hc0
  have HR1 := zK hr1
  have HC1 := zK hc1
  clear hr0 hc0 hr1 hc1
  have HB := zK (Below.refl w.heap.size w)
  have H := h
  clear h
  unfold impl_LiveSets.f at H
  replace H := Option.bind_eq_some_iff.mp H
  obtain ⟨t526, A30, H⟩ := H
  have A3 := zK A30
  clear A30
  by_cases c4 : t526 = true
  · subst c4
    rw [if_pos rfl] at H
    replace H := Option.bind_eq_some_iff.mp H
    obtain ⟨t527, A50, H⟩ := H
    have A5 := zK A50
    clear A50
    by_cases c6 : t527 = true
    · subst c6
      rw [if_pos rfl] at H
      replace H := Option.bind_eq_some_iff.mp H
      obtain ⟨t528, A70, H⟩ := H
      replace H := Option.some.inj H
      injection H with e1 e2
      subst e1
      subst e2
      unfold impl_liveSets.f at A70
      by_cases hok : impl_liveSets.hand_ok l0 l1
      · rw [if_pos hok] at A70
        have A7 := zK (Option.some.inj A70)
        have HOK := zK hok
        clear A70 hok
        go_enter Try.func54, Try.ntmps54
        go_wp2_with (first | ((with_reducible refine gate_callee (f := 60) rfl ?_); refine goesL_ (some 7) rfl rfl Try.func60 (by kernel_rfl) rfl #[.slice A0 l0.length c0] rfl (by (try simp only [z6, z7, z8]); first | done | rfl | (simp only [z4, z5]; rfl)) ?_; (with_reducible refine (impl_IsCode.calls k _ _ l0 true _ HR0.out HC0.out A3.out).mono ?_); rintro e w8 ⟨rfl, hb⟩; refine ⟨_, rfl, ?_⟩; have n0_ := zK (zL (by repeat (first | (with_reducible first | exact HB.out | apply zA | apply zB | apply zC) | exact HB.out)) hb); clear HB; have HB := n0_; clear n0_; (try clear hb)) | (go_at_call 94; (with_reducible refine (impl_areWanted.calls k _ _ l1 true _ ?side1 ?side2 A5.out).mono ?_); (case side1 => repeat (first | exact (Kd.C_below HR1.out HB.out) | (with_reducible refine Kd.C_drewN ?_ _) | (with_reducible refine Kd.C_drew ?_))); (case side2 => exact HC1.out); rintro e w' ⟨rfl, ⟨nd, rfl⟩⟩) | ((with_reducible refine gate_callee (f := 100) rfl ?_); refine goesL_ (some 16) rfl rfl Try.func100 (by kernel_rfl) rfl #[.slice A0 l0.length c0, .slice A1 l1.length c1] rfl (by (try simp only [z6, z7, z8]); first | done | rfl | (simp only [z4, z5]; rfl)) ?_; (with_reducible refine (impl_liveSets.hand_S _ _ l0 _ _ l1 _ ?side1 HC0.out ?side3 HC1.out HOK.out).mono ?_); (case side1 => repeat (first | exact (Kd.C_below HR0.out (by repeat (first | (with_reducible first | exact HB.out | apply zA | apply zB | apply zC) | exact HB.out))) | (with_reducible refine Kd.C_drewN ?_ _) | (with_reducible refine Kd.C_drew ?_))); (case side3 => repeat (first | exact (Kd.C_below HR1.out (by repeat (first | (with_reducible first | exact HB.out | apply zA | apply zB | apply zC) | exact HB.out))) | (with_reducible refine Kd.C_drewN ?_ _) | (with_reducible refine Kd.C_drew ?_))); rintro e w9 ⟨g, V, Ls, Fo, rfl, hrows, hexp, hgb, hb⟩; refine ⟨_, rfl, ?_⟩; have HRO := zK hrows; have HEX := zK hexp; have HGB := zK hgb; have HBN := zK (zL (by repeat (first | (with_reducible first | exact HB.out | apply zA | apply zB | apply zC) | exact HB.out)) hb); have HSZ := zK (zN (by repeat (first | (with_reducible first | exact HB.out | apply zA | apply zB | apply zC) | exact HB.out))); clear HB; have HB := HBN; clear hb hrows hexp hgb))
        go_ret2
        have hn := HOK.out.1
        have he : t528.length = l0.length + 1 := by rw [← A7.out]; simp
        refine ⟨g, some ⟨g, 0, none⟩, l0.length + 1, V, Fo, by rw [he]; rfl, by omega, by omega, ?_, HB.out⟩
        rw [he]
        refine rowsap_congr (rowsap_lower (hand_rows_ap HRO.out (by have := HGB.out; exact this)) HSZ.out) (fun j hj => ?_)
        unfold rowOf
        rw [← A7.out, List.getD_eq_getElem?_getD, List.getElem?_map, List.getElem?_range hj]
        show _ = impl_liveSets.hand_at l0 l1 (l0.length - j)
        rw [← HEX.out (l0.length - j) (by omega)]
        congr 1
        omega
      · rw [if_neg hok] at A70
        cases A70
    · replace c6 := Bool.eq_false_iff.mpr c6
      subst c6
      rw [if_neg (show ¬ (false = true) by decide)] at H
      replace H := Option.some.inj H
      injection H with e1 e2
      subst e1
      subst e2
      go_enter Try.func54, Try.ntmps54
      go_wp2_with (first | ((with_reducible refine gate_callee (f := 60) rfl ?_); refine goesL_ (some 7) rfl rfl Try.func60 (by kernel_rfl) rfl #[.slice A0 l0.length c0] rfl (by (try simp only [z6, z7, z8]); first | done | rfl | (simp only [z4, z5]; rfl)) ?_; (with_reducible refine (impl_IsCode.calls k _ _ l0 true _ HR0.out HC0.out A3.out).mono ?_); rintro e w8 ⟨rfl, hb⟩; refine ⟨_, rfl, ?_⟩; have n0_ := zK (zL (by repeat (first | (with_reducible first | exact HB.out | apply zA | apply zB | apply zC) | exact HB.out)) hb); clear HB; have HB := n0_; clear n0_; (try clear hb)) | (go_at_call 94; (with_reducible refine (impl_areWanted.calls k _ _ l1 false _ ?side1 ?side2 A5.out).mono ?_); (case side1 => repeat (first | exact (Kd.C_below HR1.out HB.out) | (with_reducible refine Kd.C_drewN ?_ _) | (with_reducible refine Kd.C_drew ?_))); (case side2 => exact HC1.out); rintro e w' ⟨rfl, ⟨nd, rfl⟩⟩))
      go_ret2
      exact apRes_nil _ _ (by repeat (first | (with_reducible first | exact HB.out | apply zA | apply zB | apply zC) | exact HB.out))
  · replace c4 := Bool.eq_false_iff.mpr c4
    subst c4
    rw [if_neg (show ¬ (false = true) by decide)] at H
    replace H := Option.some.inj H
    injection H with e1 e2
    subst e1
    subst e2
    go_enter Try.func54, Try.ntmps54
    go_wp2_with (first | ((with_reducible refine gate_callee (f := 60) rfl ?_); refine goesL_ (some 7) rfl rfl Try.func60 (by kernel_rfl) rfl #[.slice A0 l0.length c0] rfl (by (try simp only [z6, z7, z8]); first | done | rfl | (simp only [z4, z5]; rfl)) ?_; (with_reducible refine (impl_IsCode.calls k _ _ l0 false _ HR0.out HC0.out A3.out).mono ?_); rintro e w8 ⟨rfl, hb⟩; refine ⟨_, rfl, ?_⟩; have n0_ := zK (zL (by repeat (first | (with_reducible first | exact HB.out | apply zA | apply zB | apply zC) | exact HB.out)) hb); clear HB; have HB := n0_; clear n0_; (try clear hb)))
    go_ret2
    exact apRes_nil _ _ (by repeat (first | (with_reducible first | exact HB.out | apply zA | apply zB | apply zC) | exact HB.out))
end Go.Proofs.Ytecmlikhmkcdpaa.G
