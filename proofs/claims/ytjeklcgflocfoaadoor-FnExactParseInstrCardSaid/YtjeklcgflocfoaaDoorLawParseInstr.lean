/- 'FnExactParseInstr' of the program: for every input the law returns true, and its arguments read behind the call as before. Conditions: none beyond the row's own (arguments that can be read as data). -/
import Derived.Test.YtjeklcgflocfoaaDoorCards
import Derived.Test.YtjeklcgflocfoaaDoorTie
import Derived.SevenTiedAt
import Derived.LaidMore
import Derived.Lay
import Derived.Stop.Joined
import Derived.Test.YtjeklcgflocfoaaDoorRows
import Derived.Test.YtjeklcgflocfoaaDoorMBase
import Derived.Test.YtjeklcgflocfoaaDoorYPureParseInstr
import Derived.Test.YtjeklcgflocfoaaDoorPLaid
namespace Go.Proofs.YtjeklcgflocfoaaDoor.fnExactParseInstr
open Go.ChangeShapes Go.WideShapes Go.ChangeAt Go.RowKit Go.Proofs.YtjeklcgflocfoaaDoor.MBase Go.Proofs.YtjeklcgflocfoaaDoorW.PrintWords
open Go.ChangeMaps (open_string shut_string)
set_option linter.unusedVariables false
theorem own : ownKnob Tryd.prog.godebug = none := by kernel_rfl
theorem door_met (os : Os) (args : Array Value) : laidMetH Tryd.prog Rows.fnExactParseInstrRow.laid ((World.laidAll Tryd.prog os Rows.fnExactParseInstrRow.laid).forCall (fun _ _ => 0) ⟨#[], args, []⟩).memory := by
  rw [MakeChecks.laidMetH_plain _ _ _ (by kernel_rfl)]
  exact laidMet_laidAll _ (by kernel_rfl) (by kernel_rfl)
theorem laidOut : laidOutB Tryd.prog = true := by kernel_rfl
set_option maxRecDepth 100000 in
theorem lifted (os : Os) (started : os.Started) (H : Type) (enc : TypeId × Value → H) :
    ReturnsInHanded {} Tryd.checked os 7 .any (fun w args => (Rows.fnExactParseInstrSpec.pre enc Tryd.prog Tryd.f7 Rows.fnExactParseInstrRow.domain false w args ∧ laidMetH Tryd.prog Rows.fnExactParseInstrRow.laid w) ∧ sizedMet enc Tryd.prog Tryd.f7 (OpenSpec.ofChange Rows.fnExactParseInstrSpec) false w args) (Rows.fnExactParseInstrSpec.post enc Tryd.prog Tryd.f7 false true false false) := by
  refine PLaid.row_under (C := Tryd.checked) (X := fun w _ => laidMetH Tryd.prog Rows.fnExactParseInstrRow.laid w) (fun _ _ _ hh h => h.of_heap hh) own started (by kernel_rfl) Tryd.func7
    (ChangeSpec.witness_shaped (enc := enc) (C := Tryd.checked) (os := os) (X := fun w _ => laidMetH Tryd.prog Rows.fnExactParseInstrRow.laid w) false (World.laidAll Tryd.prog os Rows.fnExactParseInstrRow.laid) #[.string ByteArray.empty] 8 (World.laidAll_os _ _ _) (World.shaped_of_ZipB (by kernel_rfl) (by kernel_rfl)) (by kernel_rfl) (by kernel_rfl) (by kernel_rfl) (door_met os _)) ?_
  intro W base args ds gs before hval0 hW hcnd hsz0 hL hS _
  have hval : ∀ (j : Nat) t v, Tryd.f7.params[j]? = some t → args[j]? = some v → Value.okWide Tryd.prog W .any base t v := hval0
  have hW' := hW
  obtain ⟨p, q, hA0, hV, rfl, hfz, hnd⟩ := hW
  have hA : DataW.TrodAll enc Tryd.prog W 0 (fun _ => true) true Tryd.f7.params.toList args.toList ds p := hA0
  have hlt : ∀ x ∈ p, x.block < W.heap.size := fun x hx => hW'.lt x (List.mem_append_left _ hx)
  rw [Tryd.params7] at hA hval
  obtain ⟨v0, vs0, d0, ds0, p0, q0, hargs, rfl, hp0, h0, r0⟩ := trodAll_cons hA
  obtain ⟨rfl, rfl, hpe⟩ := trodAll_nil r0
  obtain rfl : args = #[v0] := by cases args; simp_all
  obtain ⟨rfl, rfl⟩ := trodVars_none hV
  obtain ⟨a0, rfl, _, _, w0⟩ := open_string Tryd.underlying9 (hval 0 9 v0 rfl rfl) h0
  clear hval0 hsz0
  refine (PureOps.parseInstr_walk a0 w0 W (PLaid.pw_of_laid hL hS)).mono fun e W' ⟨he, bel⟩ => ?_
  subst he
  exact ⟨_, rfl, _, _, _, [], _, [], hW', trodAll_mk1 (shut_bool Tryd.underlying4 _), below_trodAll laidOut bel (by kernel_rfl) hA0 hlt, rfl, bel.frame _, fun h => by cases h⟩
theorem over : Rows.fnExactParseInstrRow.holds Tryd.pinned (OpenSpec.ofChange Rows.fnExactParseInstrSpec) :=
  OpenClaim.holds_of_wide 7 Tryd.f7 rfl rfl rfl rfl rfl rfl rfl ⟨rfl, rfl, rfl, rfl, rfl⟩ rfl rfl rfl rfl rfl (by kernel_rfl) Tryd.func7 (by kernel_rfl)
    (of_decide_eq_true (by kernel_rfl)) (by unfold Func.isWrapper; first | (rw [if_pos (by decide +kernel)]; kernel_rfl) | (rw [if_neg (by decide +kernel)]; exact ⟨rfl, rfl⟩))
    (fun os started H enc _ => lifted os started H enc)
theorem proved : Rows.FnExactParseInstrSaid := over
theorem card_holds : Rows.FnExactParseInstrCardSaid :=
  Claim7.holds_tied_plain_at .later [] [.data, .data, .data, .data, .sentinel, .sentinel, .pinned] true (true, "c5c5f94b4c1c5ad8c6b269056180c5697893721d908b17d1f31342dcef1a7ffb") true proved (fun _ h => by cases h) (by kernel_rfl) (fun _ h => by cases h) fnExactParseInstr_row_tie rfl ⟨rfl, rfl⟩ (by kernel_rfl) rfl
    (fun f fn hf hfn => by
      obtain rfl : f = 7 := Option.some.inj ((show Tryd.prog.funcNamed "loop.example/g01127/laws.FnExactParseInstr" = some 7 by kernel_rfl).symm.trans hf) |>.symm
      obtain rfl : fn = Tryd.f7 := (Option.some.inj (Tryd.func7.symm.trans hfn)).symm
      exact ⟨by kernel_rfl, fun j t ht => by
        rw [Tryd.params7] at ht
        have hm : t ∈ [9] := by simpa using Array.mem_of_getElem? ht
        have hall : ([9].all fun u => !Tryd.prog.wantsStandIn u) = true := by kernel_rfl
        exact (show Tryd.prog.wantsStandIn t = false by simpa using List.all_eq_true.1 hall t hm)⟩)
    (by kernel_rfl)
#print axioms card_holds
end Go.Proofs.YtjeklcgflocfoaaDoor.fnExactParseInstr
namespace Go.Proofs.YtjeklcgflocfoaaDoor
/-- The card, under a short name, for the claim. -/
theorem fnExactParseInstr_holds : Rows.FnExactParseInstrCardSaid := fnExactParseInstr.card_holds
end Go.Proofs.YtjeklcgflocfoaaDoor
