/- ParseInstr of the program and of the reference agree for all texts. Plain. -/
import Derived.Test.YtjeklcgflocfoaaDoorYParse
namespace Go.Proofs.YtjeklcgflocfoaaDoor.PureOps
open Go.RowKit Go.Proofs.YtjeklcgflocfoaaDoor.P Go.Proofs.YtjeklcgflocfoaaDoorW.PrintWords Go.Proofs.YtjeklcgflocfoaaDoorW.PrintLast Go.Proofs.YtjeklcgflocfoaaDoorW.PrintMore
set_option linter.unusedVariables false
set_option linter.unusedSimpArgs false
theorem toList_app (a b : ByteArray) : (a ++ b).toList = a.toList ++ b.toList := by rw [toList_data, toList_data, toList_data]; simp
theorem op_plain (o : List UInt8) (h : (shape o).2.2.2.2.2 = true) : o.all (fun b => b != 32) = true := by
  unfold shape at h
  split at h
  · next e => subst e; decide
  split at h
  · next n e => rcases e with e | e | e <;> (subst e; decide)
  split at h
  · next n1 n2 e =>
    simp only [two, opsL, List.any_cons, List.any_nil, Bool.or_false, Bool.or_eq_true, beq_iff_eq] at e
    rcases e with e | e | e | e | e | e | e | e | e | e <;> (subst e; decide)
  split at h
  · next n1 n2 n3 e => rcases e with e | e | e <;> (subst e; decide)
  split at h
  · next n1 n2 n3 n4 e => rcases e with e | e <;> (subst e; decide)
  split at h
  · next n1 n2 n3 n4 n5 e => subst e; decide
  · exact absurd h (by decide)
theorem plain_of {l : List UInt8} (h : l.all (fun b => b != 32) = true) : ∀ b ∈ l, b ≠ 32 := fun b hb => by
  have := List.all_eq_true.1 h b hb
  simpa using this
theorem num_plain (x : Int) (h0 : 0 ≤ x) (h1 : x ≤ 63) : ∀ b ∈ (num x).toList, b ≠ 32 := by
  rw [num_list x (by omega)]
  exact plain_of (List.all_eq_true.1 tabB x.toNat (List.mem_range.2 (by omega)))
theorem reg_plain (x : Int) (h0 : 0 ≤ x) (h1 : x ≤ 63) : ∀ b ∈ 114 :: (num x).toList, b ≠ 32 := by
  intro b hb
  rcases List.mem_cons.1 hb with h | h
  · subst h; decide
  · exact num_plain x h0 h1 b h
theorem cutR (x v : List UInt8) (h : ∀ b ∈ 114 :: x, b ≠ 32) : splitW 32 (114 :: (x ++ 32 :: v)) = (114 :: x) :: splitW 32 v := splitW_cut 32 (114 :: x) v h
/-- The words of a right instruction's text. -/
def wordsL (o : ByteArray) (d a b m : Int) : List (List UInt8) :=
  o.toList :: (114 :: (num d).toList) :: (((if (shape o.toList).1 = true then [114 :: (num a).toList] else []) ++ (if (shape o.toList).2.1 = true then [114 :: (num b).toList] else [])) ++ (if decide ((shape o.toList).2.2.1 ≤ (shape o.toList).2.2.2.1) = true then [(num m).toList] else []))
theorem txt_words (o : ByteArray) (d a b m : Int) (h : goodI o.toList d a b m = true) : splitW 32 (txt o d a b m).toList = wordsL o d a b m := by
  obtain ⟨hop, hd, ha, hb, hm⟩ := goodI_num h
  have po := plain_of (op_plain _ hop)
  have pd := reg_plain d (by omega) (by omega)
  have pa := reg_plain a (by omega) (by omega)
  have pb := reg_plain b (by omega) (by omega)
  have pm := num_plain m (by omega) (by omega)
  have l2 : (⟨#[32, 114]⟩ : ByteArray).toList = [32, 114] := by rw [toList_data]
  have l1 : (⟨#[32]⟩ : ByteArray).toList = [32] := by rw [toList_data]
  unfold txt wordsL
  generalize (shape o.toList).1 = fa
  generalize (shape o.toList).2.1 = fb
  generalize decide ((shape o.toList).2.2.1 ≤ (shape o.toList).2.2.2.1) = fi
  cases fa <;> cases fb <;> cases fi <;> simp only [if_true, if_false, Bool.false_eq_true, toList_app, l1, l2, List.append_assoc, List.cons_append, List.nil_append, List.append_nil] <;>
    simp only [splitW_cut 32 _ _ po, cutR _ _ pd, cutR _ _ pa, cutR _ _ pb, splitW_word 32 _ pd, splitW_word 32 _ pa, splitW_word 32 _ pb, splitW_word 32 _ pm]
theorem ws_of {ws : List ByteArray} {ls : List (List UInt8)} (h : ws.map (·.toList) = ls) : ws = ls.map (fun l => (⟨l.toArray⟩ : ByteArray)) := by
  subst h
  rw [List.map_map]
  have : ((fun l : List UInt8 => (⟨l.toArray⟩ : ByteArray)) ∘ fun x : ByteArray => x.toList) = id := funext fun x => (word_of rfl).symm
  rw [this, List.map_id]
theorem goodI_none {o : List UInt8} {d a b m : Int} (h : goodI o d a b m = true) : ((shape o).1 = false → a = 0) ∧ ((shape o).2.1 = false → b = 0) ∧ (decide ((shape o).2.2.1 ≤ (shape o).2.2.2.1) = false → m = 0) := by
  unfold goodI at h
  simp only [Bool.and_eq_true, Bool.or_eq_true, beq_iff_eq] at h
  obtain ⟨h1, h2, h3, h4, h5⟩ := h
  refine ⟨fun e => ?_, fun e => ?_, fun e => ?_⟩
  · rcases h4 with h4 | h4
    · rw [e] at h4; exact absurd h4.1 (by decide)
    · exact h4
  · rcases h5 with h5 | h5
    · rw [e] at h5; exact absurd h5.1 (by decide)
    · exact h5
  · rcases h1 with h1 | h1
    · rw [e] at h1; exact absurd h1.1 (by decide)
    · exact h1.2
theorem text_both (s : ByteArray) (ws : List ByteArray) (o : ByteArray) (d a b m : Int) (h : goodI o.toList d a b m = true) (ht : (txt o d a b m).toList = s.toList) (hw : ws.map (·.toList) = splitW 32 s.toList) :
    specF s ws = (o, d, a, b, m, true) ∧ implF s ws = (o, d, a, b, m, true) := by
  obtain ⟨hop, hd, ha, hb, hm⟩ := goodI_num h
  obtain ⟨na, nb, nm⟩ := goodI_none h
  have hf : fin s o d a b m = (o, d, a, b, m, true) := by unfold fin; rw [if_pos ⟨h, ht⟩]
  rw [← ht, txt_words o d a b m h] at hw
  have e := ws_of hw
  have ew : ∀ l : List UInt8, (⟨l.toArray⟩ : ByteArray).toList = l := fun l => toList_data _
  have eo : (⟨o.toList.toArray⟩ : ByteArray) = o := (word_of rfl).symm
  have rd_ : rr (⟨(114 :: (num d).toList).toArray⟩ : ByteArray) = d := rr_word hd.1 hd.2 (ew _)
  have ra_ : rr (⟨(114 :: (num a).toList).toArray⟩ : ByteArray) = a := rr_word ha.1 ha.2 (ew _)
  have rb_ : rr (⟨(114 :: (num b).toList).toArray⟩ : ByteArray) = b := rr_word hb.1 hb.2 (ew _)
  have rm_ : rn (⟨(num m).toList.toArray⟩ : ByteArray) = m := rn_word hm.1 hm.2 (ew _)
  have id_ : ri (⟨(114 :: (num d).toList).toArray⟩ : ByteArray) = (d, true) := ri_word hd.1 (by omega) (.inr (ew _))
  have ia_ : ri (⟨(114 :: (num a).toList).toArray⟩ : ByteArray) = (a, true) := ri_word ha.1 (by omega) (.inr (ew _))
  have ib_ : ri (⟨(114 :: (num b).toList).toArray⟩ : ByteArray) = (b, true) := ri_word hb.1 (by omega) (.inr (ew _))
  have im_ : ri (⟨(num m).toList.toArray⟩ : ByteArray) = (m, true) := ri_word hm.1 hm.2 (.inl (ew _))
  have him := immL_shape _ hop
  have g0 : ws.getD 0 ByteArray.empty = o := by rw [e]; unfold wordsL; exact eo
  unfold specF implF
  simp only [g0, hop, him]
  rw [e]
  unfold wordsL
  clear e hw him hop g0 h
  revert na nb nm
  generalize (shape o.toList).1 = fa
  generalize (shape o.toList).2.1 = fb
  generalize decide ((shape o.toList).2.2.1 ≤ (shape o.toList).2.2.2.1) = fi
  intro na nb nm
  cases fa <;> cases fb <;> cases fi <;> (try obtain rfl := na rfl) <;> (try obtain rfl := nb rfl) <;> (try obtain rfl := nm rfl) <;>
    simp [tk, fill, upd, flds, rd_, ra_, rb_, rm_, id_, ia_, ib_, im_, hf]
theorem fin_cases (s o : ByteArray) (d a b m : Int) : (fin s o d a b m = (o, d, a, b, m, true) ∧ goodI o.toList d a b m = true ∧ (txt o d a b m).toList = s.toList) ∨ fin s o d a b m = (⟨#[]⟩, 0, 0, 0, 0, false) := by
  unfold fin
  by_cases h : goodI o.toList d a b m = true ∧ (txt o d a b m).toList = s.toList
  · exact .inl ⟨if_pos h, h.1, h.2⟩
  · exact .inr (if_neg h)
theorem specF_cases (s : ByteArray) (ws : List ByteArray) : (∃ o d a b m, specF s ws = (o, d, a, b, m, true) ∧ goodI o.toList d a b m = true ∧ (txt o d a b m).toList = s.toList) ∨ specF s ws = (⟨#[]⟩, 0, 0, 0, 0, false) := by
  unfold specF
  rcases fin_cases s _ _ _ _ _ with h | h
  · exact .inl ⟨_, _, _, _, _, h⟩
  · exact .inr h
theorem implF_cases (s : ByteArray) (ws : List ByteArray) : (∃ o d a b m, implF s ws = (o, d, a, b, m, true) ∧ goodI o.toList d a b m = true ∧ (txt o d a b m).toList = s.toList) ∨ implF s ws = (⟨#[]⟩, 0, 0, 0, 0, false) := by
  unfold implF
  simp only
  split
  · rcases fin_cases s _ _ _ _ _ with h | h
    · exact .inl ⟨_, _, _, _, _, h⟩
    · exact .inr h
  · exact .inr rfl
theorem both_same (s : ByteArray) (ws ws' : List ByteArray) (h : ws.map (·.toList) = splitW 32 s.toList) (h' : ws'.map (·.toList) = splitW 32 s.toList) : specF s ws = implF s ws' := by
  rcases specF_cases s ws with ⟨o, d, a, b, m, e, g, t⟩ | e
  · rw [e, (text_both s ws' o d a b m g t h').2]
  · rcases implF_cases s ws' with ⟨o, d, a, b, m, e2, g, t⟩ | e2
    · rw [(text_both s ws o d a b m g t h).1, e2]
    · rw [e, e2]
theorem txt_short (o : ByteArray) (d a b m : Int) (h : goodI o.toList d a b m = true) : (txt o d a b m).size ≤ 40 := by
  obtain ⟨hop, hd, ha, hb, hm⟩ := goodI_num h
  have ho : o.size ≤ 4 := by rw [size_len]; exact op_short _ hop
  have nd := num_size d (by omega)
  have na := num_size a (by omega)
  have nb := num_size b (by omega)
  have nm := num_size m (by omega)
  unfold txt
  simp only
  repeat' split
  all_goals (simp only [ByteArray.size_append, sp1, sp2]; omega)
theorem eqI (o o' : ByteArray) (d a b m d' a' b' m' : Int) (h : o = o') (h1 : d = d') (h2 : a = a') (h3 : b = b') (h4 : m = m') : laws_eqInstr.f o d a b m o' d' a' b' m' = some true := by
  subst h h1 h2 h3 h4
  unfold laws_eqInstr.f
  simp
theorem parseInstr_true (s : ByteArray) : ∃ k, laws_FnExactParseInstr.f k s = some true := by
  refine ⟨s.size + 100, ?_⟩
  unfold laws_FnExactParseInstr.f
  by_cases hb : (s.size : Int) > 1048576
  · rw [if_pos hb]
  rw [if_neg hb]
  obtain ⟨ws', hw', e'⟩ := parse_F (s.size + 100) s (by omega) (by omega)
  have hspec : spec_ParseInstr.f (s.size + 100) s = some (implF s ws') := by
    unfold spec_ParseInstr.f
    by_cases h40 : (s.size : Int) > 40
    · rw [if_pos h40]
      rcases implF_cases s ws' with ⟨o, d, a, b, m, e2, g, t⟩ | e2
      · exfalso
        have h1 := txt_short o d a b m g
        have h2 := congrArg List.length t
        rw [length_toList, length_toList] at h2
        omega
      · rw [e2]
    · rw [if_neg h40]
      obtain ⟨ws, hw, e⟩ := cdParse_F (s.size + 100) s (by omega) (by omega)
      rw [e, both_same s ws ws' hw hw']
      rfl
  rw [hspec]
  simp only [Option.bind_some]
  rw [e']
  simp only [Option.bind_some]
  rw [eqI _ _ _ _ _ _ _ _ _ _ rfl rfl rfl rfl rfl]
  simp
theorem parseInstr_walk (s : ByteArray) (_ : s.size ≤ 9223372036854775807) (W : World) (hT : PW W) :
    Calls Tryd.prog 7 #[.string s] W fun e w' => e = .returned (.bool true) ∧ Below W.heap.size W w' := by
  obtain ⟨k, h⟩ := parseInstr_true s
  exact laws_FnExactParseInstr.calls k s true W h rfl hT
end Go.Proofs.YtjeklcgflocfoaaDoor.PureOps
