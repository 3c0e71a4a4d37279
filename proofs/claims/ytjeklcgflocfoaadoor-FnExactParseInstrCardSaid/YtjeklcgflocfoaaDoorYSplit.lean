/- A text cut at its blanks: the program's and the reference's words are the same. Plain. -/
import Derived.Test.YtjeklcgflocfoaaDoorYPureInstrText
namespace Go.Proofs.YtjeklcgflocfoaaDoor.PureOps
open Go.RowKit Go.Proofs.YtjeklcgflocfoaaDoor.P Go.Proofs.YtjeklcgflocfoaaDoorW.PrintWords Go.Proofs.YtjeklcgflocfoaaDoorW.PrintLast Go.Proofs.YtjeklcgflocfoaaDoorW.PrintMore
set_option linter.unusedVariables false
set_option linter.unusedSimpArgs false
/-- The words of a text. -/
def splitW (c : UInt8) : List UInt8 → List (List UInt8)
  | [] => [[]]
  | b :: l => if b = c then [] :: splitW c l else match splitW c l with
    | [] => [[b]]
    | w :: ws => (b :: w) :: ws
theorem splitW_ne (c : UInt8) (l : List UInt8) : splitW c l ≠ [] := by
  cases l with
  | nil => simp [splitW]
  | cons b l =>
    unfold splitW
    split
    · simp
    · split <;> simp
theorem splitW_word (c : UInt8) : ∀ u : List UInt8, (∀ b ∈ u, b ≠ c) → splitW c u = [u]
  | [], _ => rfl
  | b :: u, h => by
    unfold splitW
    rw [if_neg (h b (List.mem_cons_self ..)), splitW_word c u (fun x hx => h x (List.mem_cons_of_mem _ hx))]
theorem splitW_cut (c : UInt8) : ∀ (u v : List UInt8), (∀ b ∈ u, b ≠ c) → splitW c (u ++ c :: v) = u :: splitW c v
  | [], v, _ => by show (if c = c then _ else _) = _; rw [if_pos rfl]
  | b :: u, v, h => by
    show (if b = c then _ else match splitW c (u ++ c :: v) with | [] => [[b]] | w :: ws => (b :: w) :: ws) = _
    rw [if_neg (h b (List.mem_cons_self ..)), splitW_cut c u v (fun x hx => h x (List.mem_cons_of_mem _ hx))]
theorem splitK_W (c : UInt8) : ∀ l : List UInt8, Lib.splitK [c] 0 (Lib.count l [c]) l = splitW c l
  | [] => by rw [Lib.count_miss (by simp [Lib.index])]; rfl
  | b :: l => by
    by_cases h : b = c
    · subst h
      have hix : Lib.index (b :: l) [b] = ((0 : Nat) : Int) := by rw [Lib.index]; simp [List.isPrefixOf]
      rw [Lib.count_cons_eq, Nat.add_comm, splitW, if_pos rfl, Lib.splitK, hix, if_neg (by decide), ← splitK_W b l]
      simp
    · have hp : ([c] : List UInt8).isPrefixOf (b :: l) = false := by simp [List.isPrefixOf, Ne.symm h]
      have hix : Lib.index (b :: l) [c] = if Lib.index l [c] == -1 then -1 else Lib.index l [c] + 1 := by rw [Lib.index, hp]; simp
      have ih := splitK_W c l
      rw [Lib.count_cons_ne b c l h, splitW, if_neg h]
      by_cases hm : Lib.index l [c] = -1
      · rw [Lib.count_miss hm] at ih ⊢
        rw [← ih]
        rfl
      · obtain ⟨j, hj⟩ : ∃ j : Nat, Lib.index l [c] = j := ⟨(Lib.index l [c]).toNat, by have := Lib.index_ge l [c]; omega⟩
        have hix' : Lib.index (b :: l) [c] = ((j + 1 : Nat) : Int) := by rw [hix, if_neg (fun e => hm (beq_iff_eq.1 e)), hj]; omega
        rw [Lib.count_hit (by simp) hj, Nat.add_comm] at ih ⊢
        rw [Lib.splitK, hj, if_neg (by intro e; have := beq_iff_eq.1 e; omega)] at ih
        rw [Lib.splitK, hix', if_neg (by intro e; have := beq_iff_eq.1 e; omega), ← ih]
        simp
theorem split_W (k : Nat) (s : ByteArray) (c : UInt8) (hs : s.size ≤ 1048576) : ∃ ws, strings_Split.f k s ⟨#[c]⟩ = some ws ∧ ws.map (·.toList) = splitW c s.toList := by
  refine ⟨_, by unfold strings_Split.f; rw [if_pos ⟨hs, Nat.le_refl 1⟩], ?_⟩
  have h := Lib.splitB_data ⟨#[c]⟩ 0 (Lib.countB s ⟨#[c]⟩) s
  have e : (fun x : ByteArray => x.toList) = (fun x : ByteArray => x.data.toList) := funext toList_data
  rw [e, h, toList_data]
  exact splitK_W c s.data.toList
theorem bt_list (s : ByteArray) (i : Nat) (h : i < s.toList.length) : bt s (i : Int) = ((s.toList[i]'h).toNat : Int) := by
  have h2 : i < s.size := by rw [length_toList] at h; exact h
  have := bt_at s (i : Int) h2
  rw [← this]
  congr 1
  simp [toList_data]
  rfl
theorem l1Split_loop (s : ByteArray) (c : UInt8) (hs : s.size ≤ 1048576) (d : Nat) : ∀ (k a i : Nat) (out : List ByteArray), i + d = s.size → a ≤ i → out.length ≤ i → d < k → (∀ b ∈ (s.toList.drop a).take (i - a), b ≠ c) →
    ∃ ws, spec_l1Split.l0 k s (c.toNat : Int) out (a : Int) (i : Int) = some (out ++ ws) ∧ ws.map (·.toList) = splitW c (s.toList.drop a) := by
  have hl := length_toList s
  induction d with
  | zero =>
    intro k a i out hi ha ho hk hb
    obtain ⟨k, rfl⟩ : ∃ m, k = m + 1 := ⟨k - 1, by omega⟩
    simp only [spec_l1Split.l0]
    rw [if_neg (by omega), if_pos (by omega), if_pos (by omega), if_pos (by omega)]
    refine ⟨_, rfl, ?_⟩
    have e : (s.extract (a : Int).toNat s.size).toList = s.toList.drop a := by
      rw [toList_data, toList_data]
      simp
      rw [List.take_of_length_le (by rw [List.length_drop, ← toList_data]; omega)]
    rw [List.map_singleton, e, splitW_word]
    intro b hb2
    refine hb b ?_
    rw [List.take_of_length_le (by rw [List.length_drop]; omega)]
    exact hb2
  | succ d ih =>
    intro k a i out hi ha ho hk hb
    obtain ⟨k, rfl⟩ : ∃ m, k = m + 1 := ⟨k - 1, by omega⟩
    have hil : i < s.toList.length := by omega
    have ebt := bt_list s i hil
    have edrop : s.toList.drop a = (s.toList.drop a).take (i - a) ++ s.toList[i] :: s.toList.drop (i + 1) := by
      conv => lhs; rw [← List.take_append_drop (i - a) (s.toList.drop a)]
      rw [List.drop_drop, show a + (i - a) = i by omega, List.drop_eq_getElem_cons hil]
    simp only [spec_l1Split.l0]
    rw [if_pos (by omega), if_pos (by omega)]
    have ew : wrap64 ((i : Int) + 1) = ((i + 1 : Nat) : Int) := by rw [wrap64_small (by omega) (by omega)]; omega
    by_cases hc : s.toList[i] = c
    · rw [if_pos (by rw [ebt, hc]), if_pos (by omega), if_pos (by omega), if_pos (by omega), if_pos (by omega), ew]
      obtain ⟨ws, e1, e2⟩ := ih k (i + 1) (i + 1) (out ++ [s.extract (a : Int).toNat (i : Int).toNat]) (by omega) (Nat.le_refl _) (by simp; omega) (by omega) (by simp)
      refine ⟨s.extract (a : Int).toNat (i : Int).toNat :: ws, by rw [e1, List.append_assoc]; rfl, ?_⟩
      rw [edrop, hc, splitW_cut c _ _ hb, List.map_cons, e2]
      congr 1
      rw [toList_data, toList_data]
      simp [List.take_drop, show a + (i - a) = i by omega]
    · have hne : ¬ bt s (i : Int) = (c.toNat : Int) := by
        rw [ebt]
        intro e
        exact hc (UInt8.toNat_inj.1 (by omega))
      rw [if_neg hne, ew]
      refine ih k a (i + 1) out (by omega) (by omega) (by omega) (by omega) ?_
      intro b hb2
      rw [show i + 1 - a = (i - a) + 1 by omega] at hb2
      have h3 : (s.toList.drop a).take (i - a + 1) = (s.toList.drop a).take (i - a) ++ [s.toList[i]] := by
        rw [List.take_add_one, List.getElem?_drop, show a + (i - a) = i by omega, List.getElem?_eq_getElem hil]
        rfl
      rw [h3, List.mem_append, List.mem_singleton] at hb2
      rcases hb2 with h4 | h4
      · exact hb b h4
      · subst h4; exact hc
theorem l1Split_W (k : Nat) (s : ByteArray) (hs : s.size ≤ 1048576) (hk : s.size < k) : ∃ ws, spec_l1Split.f k s 32 = some ws ∧ ws.map (·.toList) = splitW 32 s.toList := by
  obtain ⟨ws, e1, e2⟩ := l1Split_loop s 32 hs s.size k 0 0 [] (by omega) (Nat.le_refl _) (Nat.le_refl _) hk (by simp)
  exact ⟨ws, by unfold spec_l1Split.f; exact e1, e2⟩
end Go.Proofs.YtjeklcgflocfoaaDoor.PureOps
