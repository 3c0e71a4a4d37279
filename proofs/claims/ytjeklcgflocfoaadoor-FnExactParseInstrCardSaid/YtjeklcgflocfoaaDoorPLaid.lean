/- What the row lists of the library's variables, and the world's shape: the facts that the walk asks for. -/
import Derived.Test.YtjeklcgflocfoaaDoorRows
import Derived.Test.YtjeklcgflocfoaaDoorPNumber
import Derived.ProofKit
import Derived.OpenShut
import Derived.LaidMore
import Derived.Lay
import Derived.SevenTiedAt
import Derived.Stop.Joined
import Derived.Stop.LaidErr
import Derived.Lib.LaidTab
import Derived.Shelf.Vars
namespace Go.Proofs.YtjeklcgflocfoaaDoor.PLaid
open Go.ChangeShapes Go.WideShapes Go.ChangeAt Go.RowKit Go.Lib Go.Proofs.YtjeklcgflocfoaaDoor.P
set_option maxRecDepth 100000
theorem star : "*" ++ "errors.errorString" = "*errors.errorString" := by decide
theorem row194 (u : TypeId) (h : Tryd.prog.typeName? 3 u = some "*errors.errorString") : u = 194 :=
  typeName_ptr_named (nm := "errors.errorString") (by rw [star]; kernel_rfl) (by kernel_rfl) (by decide) u (by rw [star]; exact h)
theorem pw_of_laid {W : World} (h : laidMetH Tryd.prog Rows.fnExactParseInstrRow.laid W) (hs : W.ShapedOpen Tryd.prog) : PW W := by
  rw [MakeChecks.laidMetH_plain _ _ _ (by kernel_rfl)] at h
  have h2 := laidMet.tail (laidMet.tail h)
  have h4 := laidMet.tail (laidMet.tail h2)
  have h5 := laidMet.tail h4
  obtain ⟨a4, s4, v4, _⟩ := laid_sentinel h4 (g := 4) (ti := 74) (tp := 194) (te := 196) (ts := 9) (by kernel_rfl) (by kernel_rfl) Tryd.underlying74 row194 Tryd.underlying194 Tryd.underlying196 rfl rfl Tryd.underlying9 (by kernel_rfl) (by kernel_rfl)
  obtain ⟨a3, s3, v3, _⟩ := laid_sentinel h5 (g := 3) (ti := 74) (tp := 194) (te := 196) (ts := 9) (by kernel_rfl) (by kernel_rfl) Tryd.underlying74 row194 Tryd.underlying194 Tryd.underlying196 rfl rfl Tryd.underlying9 (by kernel_rfl) (by kernel_rfl)
  refine ⟨?_, ?_, ⟨_, World.var?_cell (g := 3) (by kernel_rfl) v3 0, .inr ⟨_, _, rfl⟩⟩, ⟨_, World.var?_cell (g := 4) (by kernel_rfl) v4 0, .inr ⟨_, _, rfl⟩⟩⟩
  · exact tabIs_of_head (g := 5) (by kernel_rfl) (by kernel_rfl) Tryd.underlying184 Tryd.underlying158 (by kernel_rfl) (by kernel_rfl) h2
  · exact cell_of_shapedOpen_int (P := Tryd.prog) (g := 2) (t := 3) (zero := #[.int .i64 0]) hs (of_decide_eq_true (by kernel_rfl)) (by kernel_rfl) rfl (by kernel_rfl) (by kernel_rfl) Tryd.underlying3
section
variable {H : Type} {enc : TypeId × Value → H}
/-- A row under a condition of its own on the world (X), the world's shape handed to the contract, too. -/
theorem row_under {a : Assume} {C : Checked} {os : Os} {f : FuncId} {fn : Func} {s : ChangeSpec} {conds : List PathCond} {apart fresh handsOn again : Bool} {X : World → Array Value → Prop}
    (hX : ∀ (w w' : World) (args : Array Value), w.heap = w'.heap → X w args → X w' args)
    (own : ownKnob C.prog.godebug = none) (started : os.Started) (noInit : C.prog.inits.idxOf? f = none) (hfn : C.prog.funcs[f]? = some fn)
    (witness : ∃ (w : World) (tape : Tape) (i : Input), w.os = os ∧ (w.forCall tape i).Shaped C.prog ∧ i.vars = [] ∧ Input.okWide C.prog (w.forCall tape i) .any w.heap.size f i ∧
      ((s.pre enc C.prog fn conds apart (w.forCall tape i).memory i.args ∧ X (w.forCall tape i).memory i.args) ∧ sizedMet enc C.prog fn (OpenSpec.ofChange s) apart (w.forCall tape i).memory i.args) ∧ a.holds C.prog (lone (Frame.enter C.prog f i.args .normal) [] (w.forCall tape i)))
    (contract : ∀ (W : World) (base : Nat) (args : Array Value) (ds gs : List (DataW H)) (before : List MemPlace),
      (∀ (j : Nat) t v, fn.params[j]? = some t → args[j]? = some v → Value.okWide C.prog W .any base t v) →
      DataW.Whole enc C.prog fn.params.toList s.vars apart W args.toList ds gs before →
      conds.all (PathCond.test C.prog ⟨fn.params.toList, ds, s.plain.varTypes C.prog, gs⟩) = true →
      (DataW.weightsEach C.prog (fn.params.toList ++ s.plain.varTypes C.prog) (ds ++ gs)).all (· ≤ reachBytes) = true → X W args → W.ShapedOpen C.prog →
      a.holds C.prog (lone (Frame.enter C.prog f args .normal) [] W) →
      Calls C.prog f args W fun e W' => ∃ v, e = .returned v ∧ s.post enc C.prog fn apart fresh handsOn again W args v W') :
    ReturnsInHanded a C os f .any (fun w args => (s.pre enc C.prog fn conds apart w args ∧ X w args) ∧ sizedMet enc C.prog fn (OpenSpec.ofChange s) apart w args) (s.post enc C.prog fn apart fresh handsOn again) := by
  refine returnsInHanded_of_calls own started noInit witness ?_
  intro w tape i _ shaped _ ok pre holds
  obtain ⟨_, _, _, fn', found, _, _, _, _, val⟩ := ok
  cases Option.some.inj (found.symm.trans hfn)
  obtain ⟨⟨⟨ds, gs, before, whole, cnd⟩, x⟩, sz⟩ := pre
  refine (contract (w.forCall tape i) w.heap.size i.args ds gs before val (DataW.Whole.of_heap (w' := w.forCall tape i) (by rfl) whole) cnd (sz.weights whole) (hX _ _ _ (by rfl) x) shaped holds).mono ?_
  rintro e W' ⟨v, rfl, post⟩
  exact ChangeSpec.post_blind post
end
end Go.Proofs.YtjeklcgflocfoaaDoor.PLaid
