/- The seat's arguments opened: structs by value, slices. -/
import Derived.Test.YtecmlikhmkcdpaaIMBase
import Derived.Test.YtecmlikhmkcdpaaIK
namespace Go.Proofs.Ytecmlikhmkcdpaa.MKinds
open Go.ChangeShapes Go.WideShapes Go.ChangeAt Go.RowKit Go.Deep Go.Proofs.Ytecmlikhmkcdpaa.MBase Go.Proofs.YtecmlikhmkcdpaaW.PrintWords Go.Proofs.Ytecmlikhmkcdpaa.I
set_option linter.unusedVariables false
set_option maxRecDepth 100000
theorem _root_.Go.Proofs.Try.laidOut : laidOutB Try.prog = true := by kernel_rfl
def instrOk (x : ByteArray × Int × Int × Int × Int) : Prop := x.1.size ≤ maxLen ∧ (Lit.int .i64 x.2.1).wf = true ∧ (Lit.int .i64 x.2.2.1).wf = true ∧ (Lit.int .i64 x.2.2.2.1).wf = true ∧ (Lit.int .i64 x.2.2.2.2).wf = true
theorem opens_instr : Opens Try.prog 65 (Kd.pair Kd.string (Kd.pair (Kd.int .i64) (Kd.pair (Kd.int .i64) (Kd.pair (Kd.int .i64) (Kd.int .i64))))) instrOk :=
  opens_struct5 Try.underlying65 (by kernel_rfl) (by kernel_rfl) (opens_string Try.underlying9) (opens_int Try.underlying3) (opens_int Try.underlying3) (opens_int Try.underlying3) (opens_int Try.underlying3)
theorem instr_cells {w : World} {x : ByteArray × Int × Int × Int × Int} {cs : List Value} (h : Kd.K (Kd.pair Kd.string (Kd.pair (Kd.int .i64) (Kd.pair (Kd.int .i64) (Kd.pair (Kd.int .i64) (Kd.int .i64))))) w x cs) : cs = [.string x.1, .int .i64 x.2.1, .int .i64 x.2.2.1, .int .i64 x.2.2.2.1, .int .i64 x.2.2.2.2] := by
  obtain ⟨_, _, rfl, rfl, ⟨_, _, rfl, rfl, ⟨_, _, rfl, rfl, ⟨_, _, rfl, rfl, rfl⟩⟩⟩⟩ := h
  exact rfl
theorem instr_arg {H : Type} {enc : TypeId × Value → H} {w : World} {base : Nat} {spare : Nat → Bool} {held : Bool} {b0 : Nat} {v : Value} {dd : DataW H} {p : List MemPlace} (hv : Value.okWide Try.prog w .any b0 65 v) (h : DataW.Trod enc Try.prog w base spare held 65 v dd p) :
    ∃ x : ByteArray × Int × Int × Int × Int, v = .agg #[.string x.1, .int .i64 x.2.1, .int .i64 x.2.2.1, .int .i64 x.2.2.2.1, .int .i64 x.2.2.2.2] ∧ instrOk x := by
  obtain ⟨cs, x, rfl, hk, ho⟩ := struct_arg Try.underlying65 opens_instr hv h
  refine ⟨x, ?_, ho⟩
  obtain ⟨l⟩ := cs
  have := instr_cells hk
  simp only [] at this
  rw [this]
def nodeOk (x : ByteArray × Int × Int × Int) : Prop := x.1.size ≤ maxLen ∧ (Lit.int .i64 x.2.1).wf = true ∧ (Lit.int .i64 x.2.2.1).wf = true ∧ (Lit.int .i64 x.2.2.2).wf = true
theorem opens_node : Opens Try.prog 74 (Kd.pair Kd.string (Kd.pair (Kd.int .i64) (Kd.pair (Kd.int .i64) (Kd.int .i64)))) nodeOk :=
  opens_struct4 Try.underlying74 (by kernel_rfl) (by kernel_rfl) (opens_string Try.underlying9) (opens_int Try.underlying3) (opens_int Try.underlying3) (opens_int Try.underlying3)
theorem node_cells {w : World} {x : ByteArray × Int × Int × Int} {cs : List Value} (h : Kd.K (Kd.pair Kd.string (Kd.pair (Kd.int .i64) (Kd.pair (Kd.int .i64) (Kd.int .i64)))) w x cs) : cs = [.string x.1, .int .i64 x.2.1, .int .i64 x.2.2.1, .int .i64 x.2.2.2] := by
  obtain ⟨_, _, rfl, rfl, ⟨_, _, rfl, rfl, ⟨_, _, rfl, rfl, rfl⟩⟩⟩ := h
  exact rfl
theorem node_arg {H : Type} {enc : TypeId × Value → H} {w : World} {base : Nat} {spare : Nat → Bool} {held : Bool} {b0 : Nat} {v : Value} {dd : DataW H} {p : List MemPlace} (hv : Value.okWide Try.prog w .any b0 74 v) (h : DataW.Trod enc Try.prog w base spare held 74 v dd p) :
    ∃ x : ByteArray × Int × Int × Int, v = .agg #[.string x.1, .int .i64 x.2.1, .int .i64 x.2.2.1, .int .i64 x.2.2.2] ∧ nodeOk x := by
  obtain ⟨cs, x, rfl, hk, ho⟩ := struct_arg Try.underlying74 opens_node hv h
  refine ⟨x, ?_, ho⟩
  obtain ⟨l⟩ := cs
  have := node_cells hk
  simp only [] at this
  rw [this]
theorem ints_arg {H : Type} {enc : TypeId × Value → H} {w : World} {base : Nat} {spare : Nat → Bool} {held : Bool} {b0 : Nat} {v : Value} {dd : DataW H} {p : List MemPlace} (hv : Value.okWide Try.prog w .any b0 40 v) (h : DataW.Trod enc Try.prog w base spare held 40 v dd p) :
    ∃ (A0 : Option Addr) (c : Nat) (xs : List Int), v = .slice A0 xs.length c ∧ xs.length ≤ c ∧ Kd.C (Kd.int .i64) w A0 xs.length xs ∧ xs.length ≤ maxLen ∧ ∀ x ∈ xs, (Lit.int .i64 x).wf = true :=
  slice_arg Try.underlying40 (by kernel_rfl) (opens_int Try.underlying3) hv h
theorem bytes_arg {H : Type} {enc : TypeId × Value → H} {w : World} {base : Nat} {spare : Nat → Bool} {held : Bool} {b0 : Nat} {v : Value} {dd : DataW H} {p : List MemPlace} (hv : Value.okWide Try.prog w .any b0 110 v) (h : DataW.Trod enc Try.prog w base spare held 110 v dd p) :
    ∃ (A0 : Option Addr) (c : Nat) (xs : List Int), v = .slice A0 xs.length c ∧ xs.length ≤ c ∧ Kd.C (Kd.int .u8) w A0 xs.length xs ∧ xs.length ≤ maxLen ∧ ∀ x ∈ xs, (Lit.int .u8 x).wf = true :=
  slice_arg Try.underlying110 (by kernel_rfl) (opens_int Try.underlying5) hv h
def nodeSOk (x : S74) : Prop := nodeOk (x.f0, x.f1, x.f2, x.f3)
theorem opens_nodeS : Opens Try.prog 74 k74 nodeSOk := opens_iso (fun x : S74 => (x.f0, x.f1, x.f2, x.f3)) (fun a => ⟨a.1, a.2.1, a.2.2.1, a.2.2.2⟩) (fun _ => rfl) opens_node
theorem nodes_arg {H : Type} {enc : TypeId × Value → H} {w : World} {base : Nat} {spare : Nat → Bool} {held : Bool} {b0 : Nat} {v : Value} {dd : DataW H} {p : List MemPlace} (hv : Value.okWide Try.prog w .any b0 31 v) (h : DataW.Trod enc Try.prog w base spare held 31 v dd p) :
    ∃ (A0 : Option Addr) (c : Nat) (xs : List S74), v = .slice A0 xs.length c ∧ xs.length ≤ c ∧ Kd.C k74 w A0 xs.length xs ∧ xs.length ≤ maxLen ∧ ∀ x ∈ xs, nodeSOk x :=
  slice_arg Try.underlying31 (by kernel_rfl) (opens_nodeS) hv h
theorem nodess_arg {H : Type} {enc : TypeId × Value → H} {w : World} {base : Nat} {spare : Nat → Bool} {held : Bool} {b0 : Nat} {v : Value} {dd : DataW H} {p : List MemPlace} (hv : Value.okWide Try.prog w .any b0 50 v) (h : DataW.Trod enc Try.prog w base spare held 50 v dd p) :
    ∃ (A0 : Option Addr) (c : Nat) (xs : List (List S74)), v = .slice A0 xs.length c ∧ xs.length ≤ c ∧ Kd.C (Kd.slice 74 k74) w A0 xs.length xs ∧ xs.length ≤ maxLen ∧ ∀ x ∈ xs, x.length ≤ maxLen ∧ ∀ y ∈ x, nodeSOk y :=
  slice_arg Try.underlying50 (by kernel_rfl) (opens_slice Try.underlying31 (by kernel_rfl) opens_nodeS) hv h
end Go.Proofs.Ytecmlikhmkcdpaa.MKinds
