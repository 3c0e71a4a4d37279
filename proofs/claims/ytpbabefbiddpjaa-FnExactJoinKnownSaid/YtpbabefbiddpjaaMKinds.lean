/- The seat's arguments opened: structs by value, slices. -/
import Derived.Test.YtpbabefbiddpjaaMBase
namespace Go.Proofs.Ytpbabefbiddpjaa.MKinds
open Go.ChangeShapes Go.WideShapes Go.ChangeAt Go.RowKit Go.Deep Go.Proofs.Ytpbabefbiddpjaa.MBase Go.Proofs.YtpbabefbiddpjaaW.PrintWords
set_option linter.unusedVariables false
theorem _root_.Go.Proofs.Try.laidOut : laidOutB Try.prog = true := by kernel_rfl
def knownOk (x : Int × Int) : Prop := (Lit.int .i64 x.1).wf = true ∧ (Lit.int .i64 x.2).wf = true
theorem opens_known : Opens Try.prog 24 (Kd.pair (Kd.int .i64) (Kd.int .i64)) knownOk :=
  opens_struct2 Try.underlying24 (by kernel_rfl) (by kernel_rfl) (opens_int Try.underlying3) (opens_int Try.underlying3)
theorem known_cells {w : World} {x : Int × Int} {cs : List Value} (h : Kd.K (Kd.pair (Kd.int .i64) (Kd.int .i64)) w x cs) : cs = [.int .i64 x.1, .int .i64 x.2] := by
  obtain ⟨_, _, rfl, rfl, rfl⟩ := h
  exact rfl
theorem known_arg {H : Type} {enc : TypeId × Value → H} {w : World} {base : Nat} {spare : Nat → Bool} {held : Bool} {b0 : Nat} {v : Value} {dd : DataW H} {p : List MemPlace} (hv : Value.okWide Try.prog w .any b0 24 v) (h : DataW.Trod enc Try.prog w base spare held 24 v dd p) :
    ∃ x : Int × Int, v = .agg #[.int .i64 x.1, .int .i64 x.2] ∧ knownOk x := by
  obtain ⟨cs, x, rfl, hk, ho⟩ := struct_arg Try.underlying24 opens_known hv h
  refine ⟨x, ?_, ho⟩
  obtain ⟨l⟩ := cs
  have := known_cells hk
  simp only [] at this
  rw [this]
def instrOk (x : ByteArray × Int × Int × Int × Int) : Prop := x.1.size ≤ maxLen ∧ (Lit.int .i64 x.2.1).wf = true ∧ (Lit.int .i64 x.2.2.1).wf = true ∧ (Lit.int .i64 x.2.2.2.1).wf = true ∧ (Lit.int .i64 x.2.2.2.2).wf = true
theorem opens_instr : Opens Try.prog 37 (Kd.pair Kd.string (Kd.pair (Kd.int .i64) (Kd.pair (Kd.int .i64) (Kd.pair (Kd.int .i64) (Kd.int .i64))))) instrOk :=
  opens_struct5 Try.underlying37 (by kernel_rfl) (by kernel_rfl) (opens_string Try.underlying9) (opens_int Try.underlying3) (opens_int Try.underlying3) (opens_int Try.underlying3) (opens_int Try.underlying3)
theorem instr_cells {w : World} {x : ByteArray × Int × Int × Int × Int} {cs : List Value} (h : Kd.K (Kd.pair Kd.string (Kd.pair (Kd.int .i64) (Kd.pair (Kd.int .i64) (Kd.pair (Kd.int .i64) (Kd.int .i64))))) w x cs) : cs = [.string x.1, .int .i64 x.2.1, .int .i64 x.2.2.1, .int .i64 x.2.2.2.1, .int .i64 x.2.2.2.2] := by
  obtain ⟨_, _, rfl, rfl, ⟨_, _, rfl, rfl, ⟨_, _, rfl, rfl, ⟨_, _, rfl, rfl, rfl⟩⟩⟩⟩ := h
  exact rfl
theorem instr_arg {H : Type} {enc : TypeId × Value → H} {w : World} {base : Nat} {spare : Nat → Bool} {held : Bool} {b0 : Nat} {v : Value} {dd : DataW H} {p : List MemPlace} (hv : Value.okWide Try.prog w .any b0 37 v) (h : DataW.Trod enc Try.prog w base spare held 37 v dd p) :
    ∃ x : ByteArray × Int × Int × Int × Int, v = .agg #[.string x.1, .int .i64 x.2.1, .int .i64 x.2.2.1, .int .i64 x.2.2.2.1, .int .i64 x.2.2.2.2] ∧ instrOk x := by
  obtain ⟨cs, x, rfl, hk, ho⟩ := struct_arg Try.underlying37 opens_instr hv h
  refine ⟨x, ?_, ho⟩
  obtain ⟨l⟩ := cs
  have := instr_cells hk
  simp only [] at this
  rw [this]
def nodeOk (x : ByteArray × Int × Int × Int) : Prop := x.1.size ≤ maxLen ∧ (Lit.int .i64 x.2.1).wf = true ∧ (Lit.int .i64 x.2.2.1).wf = true ∧ (Lit.int .i64 x.2.2.2).wf = true
theorem opens_node : Opens Try.prog 79 (Kd.pair Kd.string (Kd.pair (Kd.int .i64) (Kd.pair (Kd.int .i64) (Kd.int .i64)))) nodeOk :=
  opens_struct4 Try.underlying79 (by kernel_rfl) (by kernel_rfl) (opens_string Try.underlying9) (opens_int Try.underlying3) (opens_int Try.underlying3) (opens_int Try.underlying3)
theorem node_cells {w : World} {x : ByteArray × Int × Int × Int} {cs : List Value} (h : Kd.K (Kd.pair Kd.string (Kd.pair (Kd.int .i64) (Kd.pair (Kd.int .i64) (Kd.int .i64)))) w x cs) : cs = [.string x.1, .int .i64 x.2.1, .int .i64 x.2.2.1, .int .i64 x.2.2.2] := by
  obtain ⟨_, _, rfl, rfl, ⟨_, _, rfl, rfl, ⟨_, _, rfl, rfl, rfl⟩⟩⟩ := h
  exact rfl
theorem node_arg {H : Type} {enc : TypeId × Value → H} {w : World} {base : Nat} {spare : Nat → Bool} {held : Bool} {b0 : Nat} {v : Value} {dd : DataW H} {p : List MemPlace} (hv : Value.okWide Try.prog w .any b0 79 v) (h : DataW.Trod enc Try.prog w base spare held 79 v dd p) :
    ∃ x : ByteArray × Int × Int × Int, v = .agg #[.string x.1, .int .i64 x.2.1, .int .i64 x.2.2.1, .int .i64 x.2.2.2] ∧ nodeOk x := by
  obtain ⟨cs, x, rfl, hk, ho⟩ := struct_arg Try.underlying79 opens_node hv h
  refine ⟨x, ?_, ho⟩
  obtain ⟨l⟩ := cs
  have := node_cells hk
  simp only [] at this
  rw [this]
theorem ints_arg {H : Type} {enc : TypeId × Value → H} {w : World} {base : Nat} {spare : Nat → Bool} {held : Bool} {b0 : Nat} {v : Value} {dd : DataW H} {p : List MemPlace} (hv : Value.okWide Try.prog w .any b0 83 v) (h : DataW.Trod enc Try.prog w base spare held 83 v dd p) :
    ∃ (A0 : Option Addr) (c : Nat) (xs : List Int), v = .slice A0 xs.length c ∧ xs.length ≤ c ∧ Kd.C (Kd.int .i64) w A0 xs.length xs ∧ xs.length ≤ maxLen ∧ ∀ x ∈ xs, (Lit.int .i64 x).wf = true :=
  slice_arg Try.underlying83 (by kernel_rfl) (opens_int Try.underlying3) hv h
end Go.Proofs.Ytpbabefbiddpjaa.MKinds
