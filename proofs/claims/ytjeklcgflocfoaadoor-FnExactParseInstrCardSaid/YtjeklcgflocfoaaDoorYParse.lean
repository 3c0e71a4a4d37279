/- What the reference and the program read of a text, told word by word. Plain. -/
import Derived.Test.YtjeklcgflocfoaaDoorYRead
namespace Go.Proofs.YtjeklcgflocfoaaDoor.PureOps
open Go.RowKit Go.Proofs.YtjeklcgflocfoaaDoor.P Go.Proofs.YtjeklcgflocfoaaDoorW.PrintWords Go.Proofs.YtjeklcgflocfoaaDoorW.PrintLast Go.Proofs.YtjeklcgflocfoaaDoorW.PrintMore
set_option linter.unusedVariables false
set_option linter.unusedSimpArgs false
/-- What is given back for what was read: the instruction, if it is right and has the text. -/
def fin (s o : ByteArray) (d a b m : Int) : ByteArray × Int × Int × Int × Int × Bool :=
  if goodI o.toList d a b m = true ∧ (txt o d a b m).toList = s.toList then (o, d, a, b, m, true) else (⟨#[]⟩, 0, 0, 0, 0, false)
theorem rdOf_get (ws : List ByteArray) (n : Nat) : rdOf ByteArray.empty ws (n : Int) = ws.getD n ByteArray.empty := rfl
/-- The next word, if it is asked for and there. -/
def tk (f : Bool) (g : ByteArray → Int) (ws : List ByteArray) (n : Nat) : Int × Nat := if f = true ∧ n < ws.length then (g (ws.getD n ByteArray.empty), n + 1) else (0, n)
theorem j6_fin (k : Nat) (hk : 20 ≤ k) (s o : ByteArray) (d a b m : Int) : spec_cdParse.j6 k s o d a b m = some (fin s o d a b m) := by
  obtain ⟨k, rfl⟩ : ∃ n, k = n + 1 := ⟨k - 1, by omega⟩
  simp only [spec_cdParse.j6]
  rw [cdGood_f k (by omega)]
  simp only [Option.bind_some]
  unfold fin
  by_cases h : goodI o.toList d a b m = true
  · rw [if_pos h, text_spec k (by omega) o d a b m h]
    simp only [Option.bind_some]
    by_cases h2 : (txt o d a b m).toList = s.toList
    · rw [if_pos h2, if_pos ⟨h, h2⟩]
    · rw [if_neg h2, if_neg (fun q => h2 q.2)]
  · rw [if_neg h, if_neg (fun q => h q.1)]
theorem j5_fin (k : Nat) (hk : 21 ≤ k) (s o : ByteArray) (ws : List ByteArray) (n : Nat) (f : Bool) (d a b : Int) : spec_cdParse.j5 k s ws (n : Int) (f && decide (n < ws.length)) o d a b 0 = some (fin s o d a b (tk f rn ws n).1) := by
  obtain ⟨k, rfl⟩ : ∃ n, k = n + 1 := ⟨k - 1, by omega⟩
  simp only [spec_cdParse.j5]
  unfold tk
  by_cases h : f = true ∧ n < ws.length
  · rw [if_pos (by simp [h.1, h.2]), if_pos (by omega), if_pos (by have := h.2; omega), if_pos h, rn_f _ k (by omega), rdOf_get]
    simp only [Option.bind_some]
    exact j6_fin k (by omega) s o d a b _
  · rw [if_neg (by simpa using h), if_neg h]
    exact j6_fin k (by omega) s o d a b 0
theorem dec_len (ws : List ByteArray) (n : Nat) : (decide (((ws.length : Int) - (n : Int)) > 0)) = decide (n < ws.length) := decide_eq_decide.mpr (by omega)
theorem j4_fin (k : Nat) (hk : 22 ≤ k) (s o : ByteArray) (ws : List ByteArray) (n : Nat) (d a b : Int) : spec_cdParse.j4 k s ws (n : Int) o d a b 0 = some (fin s o d a b (tk (immL.any (fun x => x == o.toList)) rn ws n).1) := by
  obtain ⟨k, rfl⟩ : ∃ n, k = n + 1 := ⟨k - 1, by omega⟩
  simp only [spec_cdParse.j4]
  rw [cdImm_any k (by omega), dec_len]
  simp only [Option.bind_some]
  have h := j5_fin k (by omega) s o ws n (immL.any (fun x => x == o.toList)) d a b
  cases hf : immL.any (fun x => x == o.toList) with
  | true => rw [hf] at h; rw [if_pos rfl]; simpa using h
  | false => rw [hf] at h; rw [if_neg (by decide)]; simpa using h
theorem j3_fin (k : Nat) (hk : 23 ≤ k) (s o : ByteArray) (ws : List ByteArray) (n : Nat) (f : Bool) (d a : Int) : spec_cdParse.j3 k s ws (n : Int) (f && decide (n < ws.length)) o d a 0 0 = some (fin s o d a (tk f rr ws n).1 (tk (immL.any (fun x => x == o.toList)) rn ws (tk f rr ws n).2).1) := by
  obtain ⟨k, rfl⟩ : ∃ n, k = n + 1 := ⟨k - 1, by omega⟩
  simp only [spec_cdParse.j3]
  by_cases h : f = true ∧ n < ws.length
  · have e : tk f rr ws n = (rr (ws.getD n ByteArray.empty), n + 1) := by unfold tk; rw [if_pos h]
    rw [if_pos (by simp [h.1, h.2]), if_pos (by omega), if_pos (by have := h.2; omega), rr_f _ k (by omega), rdOf_get, e]
    simp only [Option.bind_some]
    exact j4_fin k (by omega) s o ws (n + 1) d a _
  · have e : tk f rr ws n = (0, n) := by unfold tk; rw [if_neg h]
    rw [if_neg (by simpa using h), e]
    exact j4_fin k (by omega) s o ws n d a 0
theorem j2_fin (k : Nat) (hk : 24 ≤ k) (s o : ByteArray) (ws : List ByteArray) (n : Nat) (f : Bool) (d a : Int) : spec_cdParse.j2 k s ws f (n : Int) o d a 0 0 = some (fin s o d a (tk f rr ws n).1 (tk (immL.any (fun x => x == o.toList)) rn ws (tk f rr ws n).2).1) := by
  obtain ⟨k, rfl⟩ : ∃ n, k = n + 1 := ⟨k - 1, by omega⟩
  simp only [spec_cdParse.j2]
  rw [dec_len]
  have h := j3_fin k (by omega) s o ws n f d a
  cases f with
  | true => rw [if_pos rfl]; simpa using h
  | false => rw [if_neg (by decide)]; simpa using h
theorem j1_fin (k : Nat) (hk : 25 ≤ k) (s o : ByteArray) (ws : List ByteArray) (n : Nat) (f g : Bool) (d : Int) : spec_cdParse.j1 k s ws g (n : Int) (f && decide (n < ws.length)) o d 0 0 0 = some (fin s o d (tk f rr ws n).1 (tk g rr ws (tk f rr ws n).2).1 (tk (immL.any (fun x => x == o.toList)) rn ws (tk g rr ws (tk f rr ws n).2).2).1) := by
  obtain ⟨k, rfl⟩ : ∃ n, k = n + 1 := ⟨k - 1, by omega⟩
  simp only [spec_cdParse.j1]
  by_cases h : f = true ∧ n < ws.length
  · have e : tk f rr ws n = (rr (ws.getD n ByteArray.empty), n + 1) := by unfold tk; rw [if_pos h]
    rw [if_pos (by simp [h.1, h.2]), if_pos (by omega), if_pos (by have := h.2; omega), rr_f _ k (by omega), rdOf_get, e]
    simp only [Option.bind_some]
    exact j2_fin k (by omega) s o ws (n + 1) g d _
  · have e : tk f rr ws n = (0, n) := by unfold tk; rw [if_neg h]
    rw [if_neg (by simpa using h), e]
    exact j2_fin k (by omega) s o ws n g d 0
theorem j0_fin (k : Nat) (hk : 26 ≤ k) (s o : ByteArray) (ws : List ByteArray) (n : Nat) (f g : Bool) (d : Int) : spec_cdParse.j0 k s ws f g (n : Int) o d 0 0 0 = some (fin s o d (tk f rr ws n).1 (tk g rr ws (tk f rr ws n).2).1 (tk (immL.any (fun x => x == o.toList)) rn ws (tk g rr ws (tk f rr ws n).2).2).1) := by
  obtain ⟨k, rfl⟩ : ∃ n, k = n + 1 := ⟨k - 1, by omega⟩
  simp only [spec_cdParse.j0]
  rw [dec_len]
  have h := j1_fin k (by omega) s o ws n f g d
  cases f with
  | true => rw [if_pos rfl]; simpa using h
  | false => rw [if_neg (by decide)]; simpa using h
/-- What the reference gives back for a text with these words. -/
def specF (s : ByteArray) (ws : List ByteArray) : ByteArray × Int × Int × Int × Int × Bool :=
  let o := ws.getD 0 ByteArray.empty
  let D := tk true rr ws 1
  let A := tk (shape o.toList).1 rr ws D.2
  let B := tk (shape o.toList).2.1 rr ws A.2
  fin s o D.1 A.1 B.1 (tk (immL.any (fun x => x == o.toList)) rn ws B.2).1
theorem cdParse_F (k : Nat) (s : ByteArray) (hs : s.size ≤ 1048576) (hk : s.size + 30 ≤ k) : ∃ ws, ws.map (·.toList) = splitW 32 s.toList ∧ spec_cdParse.f k s = some (specF s ws) := by
  obtain ⟨ws, e1, e2⟩ := l1Split_W k s hs (by omega)
  refine ⟨ws, e2, ?_⟩
  have hl : 0 < ws.length := by
    have h := congrArg List.length e2
    rw [List.length_map] at h
    have h2 := splitW_ne 32 s.toList
    cases h3 : splitW 32 s.toList with
    | nil => exact absurd h3 h2
    | cons => rw [h, h3]; simp
  unfold spec_cdParse.f specF
  rw [e1]
  simp only [Option.bind_some]
  rw [if_pos (by omega), cdShape_f k (by omega)]
  simp only [Option.bind_some]
  have r0 : rdOf ByteArray.empty ws 0 = ws.getD 0 ByteArray.empty := rfl
  have r1 : rdOf ByteArray.empty ws 1 = ws.getD 1 ByteArray.empty := rfl
  rw [r0]
  by_cases h1 : 1 < ws.length
  · have e : tk true rr ws 1 = (rr (ws.getD 1 ByteArray.empty), 2) := by unfold tk; rw [if_pos ⟨rfl, h1⟩]
    rw [if_pos (by omega), if_pos (by omega), r1, rr_f _ k (by omega), e]
    simp only [Option.bind_some]
    exact j0_fin k (by omega) s _ ws 2 _ _ _
  · have e : tk true rr ws 1 = (0, 1) := by unfold tk; rw [if_neg (fun q => h1 q.2)]
    rw [if_neg (by omega), e]
    exact j0_fin k (by omega) s _ ws 1 _ _ _
/- the program -/
/-- A field is filled. -/
def upd (p v : Int) (x : Int × Int × Int × Int) : Int × Int × Int × Int := if p = 1 then (v, x.2) else if p = 2 then (x.1, v, x.2.2) else if p = 3 then (x.1, x.2.1, v, x.2.2.2) else (x.1, x.2.1, x.2.2.1, v)
/-- The fields are filled from the words, one after the other. -/
def fill (ws : List ByteArray) : List Int → Nat → Int × Int × Int × Int → Int × Int × Int × Int
  | [], _, x => x
  | p :: ps, n, x => fill ws ps (n + 1) (upd p (ri (ws.getD n ByteArray.empty)).1 x)
theorem l0_fin (s o : ByteArray) (ws : List ByteArray) (F : List Int) (hF : F.length ≤ 4) (hw : ws.length = F.length + 1) (hz : ∀ w ∈ ws, w.size ≤ 1048576) (hp : ∀ p ∈ F, p = 1 ∨ p = 2 ∨ p = 3 ∨ p = 4) (e : Nat) :
    ∀ (k i : Nat) (d a b m : Int), i + e = F.length → 20 + e ≤ k →
    impl_ParseInstr.l0 k s ws F (F.length : Int) (i : Int) o d a b m = some (fin s o (fill ws (F.drop i) (i + 1) (d, a, b, m)).1 (fill ws (F.drop i) (i + 1) (d, a, b, m)).2.1 (fill ws (F.drop i) (i + 1) (d, a, b, m)).2.2.1 (fill ws (F.drop i) (i + 1) (d, a, b, m)).2.2.2) := by
  induction e with
  | zero =>
    intro k i d a b m hi hk
    obtain ⟨k, rfl⟩ : ∃ n, k = n + 1 := ⟨k - 1, by omega⟩
    simp only [impl_ParseInstr.l0]
    rw [if_neg (by omega), List.drop_eq_nil_of_le (by omega), isInstr_f k (by omega)]
    simp only [Option.bind_some, fill]
    unfold fin
    by_cases h : goodI o.toList d a b m = true
    · rw [if_pos h, text_impl k (by omega) o d a b m h]
      simp only [Option.bind_some]
      by_cases h2 : (txt o d a b m).toList = s.toList
      · rw [if_pos h2, if_pos ⟨h, h2⟩]
      · rw [if_neg h2, if_neg (fun q => h2 q.2)]
    · rw [if_neg h, if_neg (fun q => h q.1)]
  | succ e ih =>
    intro k i d a b m hi hk
    obtain ⟨k, rfl⟩ : ∃ n, k = n + 1 := ⟨k - 1, by omega⟩
    have hiF : i < F.length := by omega
    have ew : wrap64 ((i : Int) + 1) = ((i + 1 : Nat) : Int) := by rw [wrap64_small (by omega) (by omega)]; omega
    have erd : rd F (i : Int) = F[i] := by
      show F.getD i 0 = F[i]
      rw [List.getD_eq_getElem?_getD, List.getElem?_eq_getElem hiF]; rfl
    have hwi : i + 1 < ws.length := by omega
    have hsz : (ws.getD (i + 1) ByteArray.empty).size ≤ 1048576 := by
      rw [List.getD_eq_getElem?_getD, List.getElem?_eq_getElem hwi]
      exact hz _ (List.getElem_mem hwi)
    obtain ⟨t1, t2⟩ := ri_f _ hsz
    simp only [impl_ParseInstr.l0]
    rw [if_pos (by omega), if_pos (by omega), if_pos (by omega), ew, if_pos (by omega), if_pos (by omega), rdOf_get, t1]
    simp only [Option.bind_some]
    rw [t2]
    simp only [Option.bind_some]
    rw [erd, List.drop_eq_getElem_cons hiF]
    have hpi := hp F[i] (List.getElem_mem hiF)
    simp only [fill]
    rcases hpi with h | h | h | h
    · rw [h, if_pos rfl, ih k (i + 1) _ _ _ _ (by omega) (by omega)]
      rfl
    · rw [h, if_neg (by decide), if_pos rfl, ih k (i + 1) _ _ _ _ (by omega) (by omega)]
      rfl
    · rw [h, if_neg (by decide), if_neg (by decide), if_pos rfl, ih k (i + 1) _ _ _ _ (by omega) (by omega)]
      rfl
    · rw [h, if_neg (by decide), if_neg (by decide), if_neg (by decide), if_pos rfl, ih k (i + 1) _ _ _ _ (by omega) (by omega)]
      rfl
/-- The fields of an op's form. -/
def flds (fa fb fi : Bool) : List Int := ((([1] ++ (if fa = true then [2] else [])) ++ (if fb = true then [3] else [])) ++ (if fi = true then [4] else []))
theorem flds_len (fa fb fi : Bool) : (flds fa fb fi).length ≤ 4 ∧ ∀ p ∈ flds fa fb fi, p = 1 ∨ p = 2 ∨ p = 3 ∨ p = 4 := by
  cases fa <;> cases fb <;> cases fi <;> simp [flds]
/-- What the program gives back for a text with these words. -/
def implF (s : ByteArray) (ws : List ByteArray) : ByteArray × Int × Int × Int × Int × Bool :=
  let o := ws.getD 0 ByteArray.empty
  let F := flds (shape o.toList).1 (shape o.toList).2.1 (decide ((shape o.toList).2.2.1 ≤ (shape o.toList).2.2.2.1))
  let x := fill ws F 1 (0, 0, 0, 0)
  if (shape o.toList).2.2.2.2.2 = true ∧ ws.length = F.length + 1 then fin s o x.1 x.2.1 x.2.2.1 x.2.2.2 else (⟨#[]⟩, 0, 0, 0, 0, false)
theorem j2i (k : Nat) (hk : 30 ≤ k) (s o : ByteArray) (ws : List ByteArray) (hz : ∀ w ∈ ws, w.size ≤ 1048576) (F : List Int) (hF : F.length ≤ 4) (hp : ∀ p ∈ F, p = 1 ∨ p = 2 ∨ p = 3 ∨ p = 4) :
    impl_ParseInstr.j2 k s ws F o 0 0 0 0 = some (if ws.length = F.length + 1 then fin s o (fill ws F 1 (0, 0, 0, 0)).1 (fill ws F 1 (0, 0, 0, 0)).2.1 (fill ws F 1 (0, 0, 0, 0)).2.2.1 (fill ws F 1 (0, 0, 0, 0)).2.2.2 else (⟨#[]⟩, 0, 0, 0, 0, false)) := by
  obtain ⟨k, rfl⟩ : ∃ n, k = n + 1 := ⟨k - 1, by omega⟩
  simp only [impl_ParseInstr.j2]
  rw [wrap64_small (by omega) (by omega)]
  by_cases h : ws.length = F.length + 1
  · rw [if_pos (by omega), if_pos h]
    have := l0_fin s o ws F hF h hz hp F.length k 0 0 0 0 0 (by omega) (by omega)
    rw [List.drop_zero] at this
    exact this
  · rw [if_neg (by omega), if_neg h]
theorem parse_F (k : Nat) (s : ByteArray) (hs : s.size ≤ 1048576) (hk : 40 ≤ k) : ∃ ws, ws.map (·.toList) = splitW 32 s.toList ∧ impl_ParseInstr.f k s = some (implF s ws) := by
  obtain ⟨ws, e1, e2⟩ := split_W k s 32 hs
  refine ⟨ws, e2, ?_⟩
  have hl : 0 < ws.length := by
    have h := congrArg List.length e2
    rw [List.length_map] at h
    have h2 := splitW_ne 32 s.toList
    cases h3 : splitW 32 s.toList with
    | nil => exact absurd h3 h2
    | cons => rw [h, h3]; simp
  have hz : ∀ w ∈ ws, w.size ≤ 1048576 := by
    have hsum : ∀ l : List UInt8, ∀ u ∈ splitW 32 l, u.length ≤ l.length := by
      intro l
      induction l with
      | nil => intro u hu; simp [splitW] at hu; subst hu; simp
      | cons b l ih =>
        intro u hu
        unfold splitW at hu
        split at hu
        · rcases List.mem_cons.1 hu with h | h
          · subst h; simp
          · have := ih u h; simp; omega
        · split at hu
          · simp at hu; subst hu; simp
          · next w ws h3 =>
            rcases List.mem_cons.1 hu with h | h
            · subst h
              have := ih w (by rw [h3]; exact List.mem_cons_self ..)
              simp; omega
            · have := ih u (by rw [h3]; exact List.mem_cons_of_mem _ h)
              simp; omega
    intro w hw
    have h1 : w.toList ∈ splitW 32 s.toList := by rw [← e2]; exact List.mem_map_of_mem hw
    have h2 := hsum _ _ h1
    rw [length_toList, length_toList] at h2
    omega
  obtain ⟨s', ef⟩ := formOf_f k (by omega) (ws.getD 0 ByteArray.empty)
  unfold impl_ParseInstr.f implF
  rw [e1]
  simp only [Option.bind_some]
  have r0 : rdOf ByteArray.empty ws 0 = ws.getD 0 ByteArray.empty := rfl
  rw [if_pos (by omega), r0, ef]
  simp only [Option.bind_some]
  generalize ws.getD 0 ByteArray.empty = o
  obtain ⟨k, rfl⟩ : ∃ n, k = n + 2 := ⟨k - 2, by omega⟩
  generalize (shape o.toList).2.2.2.2.2 = ok
  generalize (shape o.toList).1 = fa
  generalize (shape o.toList).2.1 = fb
  have key : ∀ (F : List Int) (j : Nat) (x1 x2 : Bool) (x3 x4 x5 : Int) (hj : 31 ≤ j) (hF : F.length ≤ 3) (hp : ∀ p ∈ F, p = 1 ∨ p = 2 ∨ p = 3 ∨ p = 4), impl_ParseInstr.j1 j s ws F x1 x2 x3 x4 x5 s' o 0 0 0 0 = impl_ParseInstr.j2 (j - 1) s ws (F ++ (if decide (x3 ≤ x4) = true then [4] else [])) o 0 0 0 0 := by
    intro F j x1 x2 x3 x4 x5 hj hF hp
    obtain ⟨j, rfl⟩ : ∃ n, j = n + 1 := ⟨j - 1, by omega⟩
    simp only [impl_ParseInstr.j1, imm_f, Option.bind_some]
    by_cases h : decide (x3 ≤ x4) = true
    · rw [if_pos h, if_pos (by omega), if_pos h]; rfl
    · rw [if_neg h, if_neg h, List.append_nil]; rfl
  have key0 : ∀ (F : List Int) (j : Nat) (x1 x2 : Bool) (x3 x4 x5 : Int) (hj : 32 ≤ j) (hF : F.length ≤ 2) (hp : ∀ p ∈ F, p = 1 ∨ p = 2 ∨ p = 3 ∨ p = 4), impl_ParseInstr.j0 j s ws F x1 x2 x3 x4 x5 s' o 0 0 0 0 = impl_ParseInstr.j2 (j - 2) s ws ((F ++ (if x2 = true then [3] else [])) ++ (if decide (x3 ≤ x4) = true then [4] else [])) o 0 0 0 0 := by
    intro F j x1 x2 x3 x4 x5 hj hF hp
    obtain ⟨j, rfl⟩ : ∃ n, j = n + 1 := ⟨j - 1, by omega⟩
    simp only [impl_ParseInstr.j0]
    by_cases h : x2 = true
    · rw [if_pos h, if_pos (by omega), key (F ++ [3]) j _ _ _ _ _ (by omega) (by simp; omega) (by
        intro p hq
        rcases List.mem_append.1 hq with h3 | h3
        · exact hp p h3
        · simp at h3; omega), if_pos h]
      rfl
    · rw [if_neg h, key F j _ _ _ _ _ (by omega) (by omega) hp, if_neg h, List.append_nil]
      rfl
  cases ok with
  | false => simp
  | true =>
    rw [if_pos rfl]
    have hfl := flds_len fa fb (decide ((shape o.toList).2.2.1 ≤ (shape o.toList).2.2.2.1))
    have fin2 := j2i (k + 2 - 2) (by omega) s o ws hz _ hfl.1 hfl.2
    cases fa with
    | true =>
      rw [if_pos rfl, if_pos (by decide), key0 ([1] ++ [2]) (k + 2) _ _ _ _ _ (by omega) (by decide) (by intro p hq; simp at hq; omega)]
      simp only [true_and]
      exact fin2
    | false =>
      rw [if_neg (by decide), key0 [1] (k + 2) _ _ _ _ _ (by omega) (by decide) (by intro p hq; simp at hq; omega)]
      simp only [true_and]
      exact fin2
end Go.Proofs.YtjeklcgflocfoaaDoor.PureOps
