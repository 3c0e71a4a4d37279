/- The seat's arguments opened: structs by value, slices. -/
import Derived.Test.YtjeklcgflocfoaaDoorMBase
import Derived.Test.YtjeklcgflocfoaaDoorJK
namespace Go.Proofs.YtjeklcgflocfoaaDoor.MKinds
open Go.ChangeShapes Go.WideShapes Go.ChangeAt Go.RowKit Go.Deep Go.Proofs.YtjeklcgflocfoaaDoor.MBase Go.Proofs.YtjeklcgflocfoaaDoorW.PrintWords Go.Proofs.YtjeklcgflocfoaaDoor.J
set_option linter.unusedVariables false
set_option maxRecDepth 100000
theorem _root_.Go.Proofs.Tryd.laidOut : laidOutB Tryd.prog = true := by kernel_rfl
def knownOk (x : Int × Int) : Prop := (Lit.int .i64 x.1).wf = true ∧ (Lit.int .i64 x.2).wf = true
theorem opens_known : Opens Tryd.prog 23 (Kd.pair (Kd.int .i64) (Kd.int .i64)) knownOk :=
  opens_struct2 Tryd.underlying23 (by kernel_rfl) (by kernel_rfl) (opens_int Tryd.underlying3) (opens_int Tryd.underlying3)
theorem known_cells {w : World} {x : Int × Int} {cs : List Value} (h : Kd.K (Kd.pair (Kd.int .i64) (Kd.int .i64)) w x cs) : cs = [.int .i64 x.1, .int .i64 x.2] := by
  obtain ⟨_, _, rfl, rfl, rfl⟩ := h
  exact rfl
theorem known_arg {H : Type} {enc : TypeId × Value → H} {w : World} {base : Nat} {spare : Nat → Bool} {held : Bool} {b0 : Nat} {v : Value} {dd : DataW H} {p : List MemPlace} (hv : Value.okWide Tryd.prog w .any b0 23 v) (h : DataW.Trod enc Tryd.prog w base spare held 23 v dd p) :
    ∃ x : Int × Int, v = .agg #[.int .i64 x.1, .int .i64 x.2] ∧ knownOk x := by
  obtain ⟨cs, x, rfl, hk, ho⟩ := struct_arg Tryd.underlying23 opens_known hv h
  refine ⟨x, ?_, ho⟩
  obtain ⟨l⟩ := cs
  have := known_cells hk
  simp only [] at this
  rw [this]
def instrOk (x : ByteArray × Int × Int × Int × Int) : Prop := x.1.size ≤ maxLen ∧ (Lit.int .i64 x.2.1).wf = true ∧ (Lit.int .i64 x.2.2.1).wf = true ∧ (Lit.int .i64 x.2.2.2.1).wf = true ∧ (Lit.int .i64 x.2.2.2.2).wf = true
theorem opens_instr : Opens Tryd.prog 31 (Kd.pair Kd.string (Kd.pair (Kd.int .i64) (Kd.pair (Kd.int .i64) (Kd.pair (Kd.int .i64) (Kd.int .i64))))) instrOk :=
  opens_struct5 Tryd.underlying31 (by kernel_rfl) (by kernel_rfl) (opens_string Tryd.underlying9) (opens_int Tryd.underlying3) (opens_int Tryd.underlying3) (opens_int Tryd.underlying3) (opens_int Tryd.underlying3)
theorem instr_cells {w : World} {x : ByteArray × Int × Int × Int × Int} {cs : List Value} (h : Kd.K (Kd.pair Kd.string (Kd.pair (Kd.int .i64) (Kd.pair (Kd.int .i64) (Kd.pair (Kd.int .i64) (Kd.int .i64))))) w x cs) : cs = [.string x.1, .int .i64 x.2.1, .int .i64 x.2.2.1, .int .i64 x.2.2.2.1, .int .i64 x.2.2.2.2] := by
  obtain ⟨_, _, rfl, rfl, ⟨_, _, rfl, rfl, ⟨_, _, rfl, rfl, ⟨_, _, rfl, rfl, rfl⟩⟩⟩⟩ := h
  exact rfl
theorem instr_arg {H : Type} {enc : TypeId × Value → H} {w : World} {base : Nat} {spare : Nat → Bool} {held : Bool} {b0 : Nat} {v : Value} {dd : DataW H} {p : List MemPlace} (hv : Value.okWide Tryd.prog w .any b0 31 v) (h : DataW.Trod enc Tryd.prog w base spare held 31 v dd p) :
    ∃ x : ByteArray × Int × Int × Int × Int, v = .agg #[.string x.1, .int .i64 x.2.1, .int .i64 x.2.2.1, .int .i64 x.2.2.2.1, .int .i64 x.2.2.2.2] ∧ instrOk x := by
  obtain ⟨cs, x, rfl, hk, ho⟩ := struct_arg Tryd.underlying31 opens_instr hv h
  refine ⟨x, ?_, ho⟩
  obtain ⟨l⟩ := cs
  have := instr_cells hk
  simp only [] at this
  rw [this]
def nodeOk (x : ByteArray × Int × Int × Int) : Prop := x.1.size ≤ maxLen ∧ (Lit.int .i64 x.2.1).wf = true ∧ (Lit.int .i64 x.2.2.1).wf = true ∧ (Lit.int .i64 x.2.2.2).wf = true
theorem opens_node : Opens Tryd.prog 79 (Kd.pair Kd.string (Kd.pair (Kd.int .i64) (Kd.pair (Kd.int .i64) (Kd.int .i64)))) nodeOk :=
  opens_struct4 Tryd.underlying79 (by kernel_rfl) (by kernel_rfl) (opens_string Tryd.underlying9) (opens_int Tryd.underlying3) (opens_int Tryd.underlying3) (opens_int Tryd.underlying3)
theorem node_cells {w : World} {x : ByteArray × Int × Int × Int} {cs : List Value} (h : Kd.K (Kd.pair Kd.string (Kd.pair (Kd.int .i64) (Kd.pair (Kd.int .i64) (Kd.int .i64)))) w x cs) : cs = [.string x.1, .int .i64 x.2.1, .int .i64 x.2.2.1, .int .i64 x.2.2.2] := by
  obtain ⟨_, _, rfl, rfl, ⟨_, _, rfl, rfl, ⟨_, _, rfl, rfl, rfl⟩⟩⟩ := h
  exact rfl
theorem node_arg {H : Type} {enc : TypeId × Value → H} {w : World} {base : Nat} {spare : Nat → Bool} {held : Bool} {b0 : Nat} {v : Value} {dd : DataW H} {p : List MemPlace} (hv : Value.okWide Tryd.prog w .any b0 79 v) (h : DataW.Trod enc Tryd.prog w base spare held 79 v dd p) :
    ∃ x : ByteArray × Int × Int × Int, v = .agg #[.string x.1, .int .i64 x.2.1, .int .i64 x.2.2.1, .int .i64 x.2.2.2] ∧ nodeOk x := by
  obtain ⟨cs, x, rfl, hk, ho⟩ := struct_arg Tryd.underlying79 opens_node hv h
  refine ⟨x, ?_, ho⟩
  obtain ⟨l⟩ := cs
  have := node_cells hk
  simp only [] at this
  rw [this]
theorem ints_arg {H : Type} {enc : TypeId × Value → H} {w : World} {base : Nat} {spare : Nat → Bool} {held : Bool} {b0 : Nat} {v : Value} {dd : DataW H} {p : List MemPlace} (hv : Value.okWide Tryd.prog w .any b0 127 v) (h : DataW.Trod enc Tryd.prog w base spare held 127 v dd p) :
    ∃ (A0 : Option Addr) (c : Nat) (xs : List Int), v = .slice A0 xs.length c ∧ xs.length ≤ c ∧ Kd.C (Kd.int .i64) w A0 xs.length xs ∧ xs.length ≤ maxLen ∧ ∀ x ∈ xs, (Lit.int .i64 x).wf = true :=
  slice_arg Tryd.underlying127 (by kernel_rfl) (opens_int Tryd.underlying3) hv h
theorem bytes_arg {H : Type} {enc : TypeId × Value → H} {w : World} {base : Nat} {spare : Nat → Bool} {held : Bool} {b0 : Nat} {v : Value} {dd : DataW H} {p : List MemPlace} (hv : Value.okWide Tryd.prog w .any b0 70 v) (h : DataW.Trod enc Tryd.prog w base spare held 70 v dd p) :
    ∃ (A0 : Option Addr) (c : Nat) (xs : List Int), v = .slice A0 xs.length c ∧ xs.length ≤ c ∧ Kd.C (Kd.int .u8) w A0 xs.length xs ∧ xs.length ≤ maxLen ∧ ∀ x ∈ xs, (Lit.int .u8 x).wf = true :=
  slice_arg Tryd.underlying70 (by kernel_rfl) (opens_int Tryd.underlying5) hv h
def nodeSOk (x : S79) : Prop := nodeOk (x.f0, x.f1, x.f2, x.f3)
theorem opens_nodeS : Opens Tryd.prog 79 k79 nodeSOk := opens_iso (fun x : S79 => (x.f0, x.f1, x.f2, x.f3)) (fun a => ⟨a.1, a.2.1, a.2.2.1, a.2.2.2⟩) (fun _ => rfl) opens_node
theorem nodes_arg {H : Type} {enc : TypeId × Value → H} {w : World} {base : Nat} {spare : Nat → Bool} {held : Bool} {b0 : Nat} {v : Value} {dd : DataW H} {p : List MemPlace} (hv : Value.okWide Tryd.prog w .any b0 45 v) (h : DataW.Trod enc Tryd.prog w base spare held 45 v dd p) :
    ∃ (A0 : Option Addr) (c : Nat) (xs : List S79), v = .slice A0 xs.length c ∧ xs.length ≤ c ∧ Kd.C k79 w A0 xs.length xs ∧ xs.length ≤ maxLen ∧ ∀ x ∈ xs, nodeSOk x :=
  slice_arg Tryd.underlying45 (by kernel_rfl) (opens_nodeS) hv h
end Go.Proofs.YtjeklcgflocfoaaDoor.MKinds
