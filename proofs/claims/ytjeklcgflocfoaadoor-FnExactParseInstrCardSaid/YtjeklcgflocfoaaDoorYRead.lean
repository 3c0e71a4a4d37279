/- What is read of a word: by the reference's readers and by the program's. Plain. -/
import Derived.Test.YtjeklcgflocfoaaDoorYSplit
namespace Go.Proofs.YtjeklcgflocfoaaDoor.PureOps
open Go.RowKit Go.Proofs.YtjeklcgflocfoaaDoor.P Go.Proofs.YtjeklcgflocfoaaDoorW.PrintWords Go.Proofs.YtjeklcgflocfoaaDoorW.PrintLast Go.Proofs.YtjeklcgflocfoaaDoorW.PrintMore
set_option linter.unusedVariables false
set_option linter.unusedSimpArgs false
theorem up_le {α : Type} {g : Nat → Option α} (h : ∀ k, LeO (g k) (g (k + 1))) {r : α} {j k : Nat} (hjk : j ≤ k) (e : g j = some r) : g k = some r := by
  induction hjk with
  | refl => exact e
  | step _ ih => exact h _ r ih
theorem l1Read_loop (s : ByteArray) (hs : s.size ≤ 6) (d : Nat) : ∀ (k i : Nat) (x : Int), i + d = s.size → d < k → ∃ v, spec_l1Read.l0 k s x (i : Int) = some v := by
  induction d with
  | zero =>
    intro k i x hi hk
    obtain ⟨k, rfl⟩ : ∃ m, k = m + 1 := ⟨k - 1, by omega⟩
    simp only [spec_l1Read.l0]
    rw [if_neg (by omega)]
    exact ⟨_, rfl⟩
  | succ d ih =>
    intro k i x hi hk
    obtain ⟨k, rfl⟩ : ∃ m, k = m + 1 := ⟨k - 1, by omega⟩
    simp only [spec_l1Read.l0]
    rw [if_pos (by omega), if_pos (by omega)]
    split
    · exact ⟨_, rfl⟩
    · split
      · exact ⟨_, rfl⟩
      · rw [show wrap64 ((i : Int) + 1) = ((i + 1 : Nat) : Int) by rw [wrap64_small (by omega) (by omega)]; omega]
        exact ih k (i + 1) _ (by omega) (by omega)
theorem l1Read_ten (s : ByteArray) : ∃ v, spec_l1Read.f 10 s = some v := by
  unfold spec_l1Read.f
  rw [l1In_f]
  simp only [Option.bind_some]
  have j0 : ∀ b, (b = false → s.size ≤ 6) → ∃ v, spec_l1Read.j0 10 s b = some v := by
    intro b hb
    simp only [spec_l1Read.j0]
    cases b with
    | true => exact ⟨_, rfl⟩
    | false =>
      rw [if_neg (by decide)]
      exact l1Read_loop s (hb rfl) s.size 9 0 0 (by omega) (by have := hb rfl; omega)
  by_cases h : (decide (1 ≤ (s.size : Int)) && decide ((s.size : Int) ≤ 6)) = true
  · have h2 := h
    simp only [Bool.and_eq_true, decide_eq_true_eq] at h2
    rw [if_pos h, if_pos (by omega)]
    split
    · exact j0 _ (fun _ => by omega)
    · exact j0 _ (fun _ => by omega)
  · rw [if_neg h]
    exact j0 true (fun e => by cases e)
/-- The number that the reference reads. -/
def rn (w : ByteArray) : Int := (spec_l1Read.f 10 w).getD 0
theorem rn_f (w : ByteArray) (k : Nat) (hk : 10 ≤ k) : spec_l1Read.f k w = some (rn w) := by
  obtain ⟨v, e⟩ := l1Read_ten w
  have : rn w = v := by unfold rn; rw [e]; rfl
  rw [this]
  exact up_le (fun j => spec_l1Read.mono w j) hk e
theorem cdReadReg_ten (w : ByteArray) : ∃ v, spec_cdReadReg.f 10 w = some v := by
  unfold spec_cdReadReg.f
  split
  · rw [if_pos (by omega)]
    split
    · rw [if_pos (by omega), rn_f _ 10 (Nat.le_refl _)]
      exact ⟨_, rfl⟩
    · exact ⟨_, rfl⟩
  · exact ⟨_, rfl⟩
/-- The register that the reference reads. -/
def rr (w : ByteArray) : Int := (spec_cdReadReg.f 10 w).getD 0
theorem rr_f (w : ByteArray) (k : Nat) (hk : 10 ≤ k) : spec_cdReadReg.f k w = some (rr w) := by
  obtain ⟨v, e⟩ := cdReadReg_ten w
  have : rr w = v := by unfold rr; rw [e]; rfl
  rw [this]
  exact up_le (fun j => spec_cdReadReg.mono w j) hk e
theorem trim_some (w : ByteArray) (hw : w.size ≤ 1048576) : ∃ v, strings_TrimPrefix.f w ⟨#[114]⟩ = some v ∧ v.size ≤ w.size := by
  have e1 : (⟨#[114]⟩ : ByteArray).size = 1 := rfl
  unfold strings_TrimPrefix.f stringslite_TrimPrefix.f stringslite_HasPrefix.f
  rw [e1]
  by_cases h : (w.size : Int) ≥ ((1 : Nat) : Int)
  · rw [if_pos h, if_pos (by decide), if_pos (by omega)]
    simp only [Option.bind_some]
    split
    · exact ⟨_, rfl, by rw [ByteArray.size_extract]; omega⟩
    · exact ⟨_, rfl, Nat.le_refl _⟩
  · rw [if_neg h]
    simp only [Option.bind_some]
    rw [if_neg (by decide)]
    exact ⟨_, rfl, Nat.le_refl _⟩
/-- A word without an r ahead. -/
def trimR (w : ByteArray) : ByteArray := (strings_TrimPrefix.f w ⟨#[114]⟩).getD ByteArray.empty
/-- What the program reads of a word. -/
def ri (w : ByteArray) : Int × Bool := P.num (trimR w).data.toList 63
theorem ri_f (w : ByteArray) (hw : w.size ≤ 1048576) : strings_TrimPrefix.f w ⟨#[114]⟩ = some (trimR w) ∧ impl_number.f (trimR w) 63 = some (ri w) := by
  obtain ⟨v, e, hv⟩ := trim_some w hw
  have : trimR w = v := by unfold trimR; rw [e]; rfl
  rw [this]
  refine ⟨e, ?_⟩
  unfold impl_number.f
  rw [if_pos (by omega)]
  unfold ri
  rw [this]
/- words of a right text -/
theorem tabR : (List.range 6).all (fun i => decide (spec_cdReadReg.f 10 ⟨(114 :: itoaTwo i).toArray⟩ = some (Int.ofNat i))) = true := by kernel_rfl
theorem tabN : (List.range 64).all (fun i => decide (spec_l1Read.f 10 ⟨(itoaTwo i).toArray⟩ = some (Int.ofNat i))) = true := by kernel_rfl
theorem tabT : (List.range 64).all (fun i => decide (strings_TrimPrefix.f ⟨(itoaTwo i).toArray⟩ ⟨#[114]⟩ = some ⟨(itoaTwo i).toArray⟩)) = true := by kernel_rfl
theorem tabT2 : (List.range 64).all (fun i => decide (strings_TrimPrefix.f ⟨(114 :: itoaTwo i).toArray⟩ ⟨#[114]⟩ = some ⟨(itoaTwo i).toArray⟩)) = true := by kernel_rfl
theorem tabA : (List.range 64).all (fun i => decide (Lib.atoiAll (itoaTwo i) = .ok (Int.ofNat i))) = true := by kernel_rfl
theorem tabB : (List.range 64).all (fun i => (itoaTwo i).all (fun b => b != 32)) = true := by decide
theorem at_tab {n : Nat} {p : Nat → Prop} [DecidablePred p] (h : (List.range n).all (fun i => decide (p i)) = true) (i : Nat) (hi : i < n) : p i := of_decide_eq_true (List.all_eq_true.1 h i (List.mem_range.2 hi))
theorem num_two (x : Int) (h : x.toNat < 100) : num x = ⟨(itoaTwo x.toNat).toArray⟩ := by unfold num; rw [itoaTwo_eq _ h]
theorem num_list (x : Int) (h : x.toNat < 100) : (num x).toList = itoaTwo x.toNat := by rw [num_two x h, toList_data]
theorem word_of {w : ByteArray} {l : List UInt8} (h : w.toList = l) : w = ⟨l.toArray⟩ := toList_inj (by rw [h, toList_data])
theorem rr_word {w : ByteArray} {x : Int} (h0 : 0 ≤ x) (h1 : x ≤ 5) (h : w.toList = 114 :: (num x).toList) : rr w = x := by
  rw [num_list x (by omega)] at h
  have e := at_tab tabR x.toNat (by omega)
  rw [word_of h]
  unfold rr
  rw [e]
  show ((x.toNat : Nat) : Int) = x
  omega
theorem rn_word {w : ByteArray} {x : Int} (h0 : 0 ≤ x) (h1 : x ≤ 63) (h : w.toList = (num x).toList) : rn w = x := by
  rw [num_list x (by omega)] at h
  have e := at_tab tabN x.toNat (by omega)
  rw [word_of h]
  unfold rn
  rw [e]
  show ((x.toNat : Nat) : Int) = x
  omega
theorem num_P {x : Int} (h0 : 0 ≤ x) (h1 : x ≤ 63) : P.num (itoaTwo x.toNat) 63 = (x, true) := by
  have e := at_tab tabA x.toNat (by omega)
  unfold P.num
  rw [e]
  simp only
  have e2 : (Int.ofNat x.toNat) = x := by show ((x.toNat : Nat) : Int) = x; omega
  have e3 : Lib.itoa x = itoaTwo x.toNat := by
    unfold Lib.itoa
    rw [if_neg (by omega), itoaTwo_eq _ (by omega)]
  rw [e2, if_pos ⟨e3, h0, h1⟩]
theorem ri_word {w : ByteArray} {x : Int} (h0 : 0 ≤ x) (h1 : x ≤ 63) (h : w.toList = (num x).toList ∨ w.toList = 114 :: (num x).toList) : ri w = (x, true) := by
  rw [num_list x (by omega)] at h
  rcases h with h | h
  · have e := at_tab tabT x.toNat (by omega)
    rw [word_of h]
    unfold ri trimR
    rw [e]
    exact num_P h0 h1
  · have e := at_tab tabT2 x.toNat (by omega)
    rw [word_of h]
    unfold ri trimR
    rw [e]
    exact num_P h0 h1
end Go.Proofs.YtjeklcgflocfoaaDoor.PureOps
