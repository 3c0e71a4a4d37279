/- impl.trailing of a word: how many of its lowest bits are 1, told in the reference's own words. -/
import Derived.Test.YtjeklcgflocfoaaDoorCSpecL1In
import Derived.Test.YtjeklcgflocfoaaDoorTz
namespace Go.Proofs.YtjeklcgflocfoaaDoor.C
open Go.RowKit Go.Proofs.YtjeklcgflocfoaaDoorW.PrintWords Go.Proofs.YtjeklcgflocfoaaDoorW.PrintLast Go.Proofs.YtjeklcgflocfoaaDoorW.PrintMore
set_option linter.unusedVariables false
/-- The lowest ones of a word. -/
def impl_trailing.f (k : Nat) (a0 : Int) : Option (Int) := if 0 ≤ a0 ∧ a0 < 64 then spec_eqLow.f 8 a0 else none
theorem impl_trailing.mono : ∀ a0 k, LeO (impl_trailing.f k a0) (impl_trailing.f (k + 1) a0) := fun _ _ => LeO.refl _
theorem lowTab : (List.range 64).all (fun i => decide (spec_eqLow.f 8 (Int.ofNat i) = some (Int.ofNat (Lib.ctz 64 (18446744073709551615 - i))))) = true := by kernel_rfl
theorem lowOf (i : Nat) (h : i < 64) : spec_eqLow.f 8 (i : Int) = some ((Lib.ctz 64 (18446744073709551615 - i) : Nat) : Int) :=
  of_decide_eq_true (List.all_eq_true.1 lowTab i (List.mem_range.2 h))
theorem notTab : (List.range 64).all (fun i => decide (bits BinOp.xor IntKind.u64 (if IntKind.u64.signed = true then -1 else IntKind.u64.max) (Int.ofNat i) = Int.ofNat (18446744073709551615 - i))) = true := by kernel_rfl
theorem notOf (i : Nat) (h : i < 64) : bits BinOp.xor IntKind.u64 (if IntKind.u64.signed = true then -1 else IntKind.u64.max) (i : Int) = ((18446744073709551615 - i : Nat) : Int) :=
  of_decide_eq_true (List.all_eq_true.1 notTab i (List.mem_range.2 h))
/-- The library's table, as its initialiser lays it. -/
def Tz (w : World) : Prop := TabAt 1 Lib.deBruijn64tab w
theorem Tz.below {w w' : World} (h : Tz w) (hb : Below w.heap.size w w') : Tz w' := by
  intro j hj
  have hc := h j hj
  have hlt : 1 < w.heap.size := by
    rcases Nat.lt_or_ge 1 w.heap.size with hl | hl
    · exact hl
    · exfalso
      have e : w.heap[1]? = none := Array.getElem?_eq_none hl
      simp [World.cell?, e] at hc
  rw [hb.cell (p := ⟨1, j, none⟩) hlt]
  exact hc
theorem impl_trailing.calls (k : Nat) (a0 : Int) (r : Int) (w : World) (h : impl_trailing.f k a0 = some r) (hT : Tz w) :
    Calls Tryd.prog 89 #[.int .i64 a0] w fun e w' => e = .returned (.int .i64 r) ∧ Drawn0 w w' := by
  unfold impl_trailing.f at h
  split at h
  · next hc =>
    obtain ⟨i, rfl⟩ := Int.eq_ofNat_of_zero_le hc.1
    have hi : i < 64 := by omega
    rw [lowOf i hi] at h
    cases h
    have hu139 := Tryd.underlying139
    have hu3 := Tryd.underlying3
    go_enter Tryd.func89, Tryd.ntmps89
    go_wp2_with ((with_reducible refine gate_callee (f := 126) rfl ?_); refine goesL_ (some 6) rfl rfl Tryd.func126 (by kernel_rfl) rfl #[.int .u64 (bits BinOp.xor IntKind.u64 (if IntKind.u64.signed = true then -1 else IntKind.u64.max) (i : Int))] rfl (by (try simp only [List.map_toArray, List.map_cons, List.map_nil]); first | done | rfl) ?_; rw [notOf i hi]; refine (Tryd.bits_TrailingZeros (18446744073709551615 - i) (by omega) _ hT).mono ?_; rintro e w5 ⟨rfl, hb⟩; refine ⟨_, rfl, ?_⟩; rw [hb])
    go_ret
    exact ⟨rfl, Drawn0.refl _⟩
  · cases h
end Go.Proofs.YtjeklcgflocfoaaDoor.C
