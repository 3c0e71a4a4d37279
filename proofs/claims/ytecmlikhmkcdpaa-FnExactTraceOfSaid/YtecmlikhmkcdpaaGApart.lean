/- Rows that lie apart: each in blocks of its own; marking them writes into nothing else. -/
import Derived.Test.YtecmlikhmkcdpaaGK
import Derived.Test.YtecmlikhmkcdpaaGLawsMarkInstrS
namespace Go.Proofs.Ytecmlikhmkcdpaa.G
open Go.RowKit Go.Proofs.YtecmlikhmkcdpaaW.PrintWords Go.Proofs.YtecmlikhmkcdpaaW.PrintLast Go.Proofs.YtecmlikhmkcdpaaW.PrintMore
attribute [local go_sem] max2_int min2_int max_two min_two max_three min_three max_four min_four
set_option linter.unusedVariables false
set_option linter.unusedSimpArgs false
/-- Rows of a list of lists, each of the call's own, no two of them in one block. -/
def rowsap (n base g : Nat) (A : Option Addr) (V : Nat → Value) (Ls : Nat → List Int) (Fo : Nat → Nat) (W : World) : Prop :=
  (0 < n → A = some ⟨g, 0, none⟩ ∧ base ≤ g ∧ ∃ cells : Array Value, W.heap[g]? = some (.cells cells 40 (0, 0)) ∧ ∀ j, j < n → cells[j]? = some (V j)) ∧
  ∀ j, j < n → Kd.R (Kd.int .i64) 3 W base (fun k => Fo k = j ∧ k ≠ g) (V j) (Ls j)
theorem rowsap_nil (base g : Nat) (V : Nat → Value) (Ls : Nat → List Int) (Fo : Nat → Nat) (W : World) (A : Option Addr) : rowsap 0 base g A V Ls Fo W := ⟨fun h => by omega, fun j h => by omega⟩
theorem rowsap_step {n base g : Nat} {A : Option Addr} {V : Nat → Value} {Ls : Nat → List Int} {Fo : Nat → Nat} {W W' : World} (h : rowsap n base g A V Ls Fo W) (hm : ∀ k, base ≤ k → k < W.heap.size → W'.heap[k]? = W.heap[k]?) : rowsap n base g A V Ls Fo W' := by
  refine ⟨fun hn => ?_, fun j hj => ?_⟩
  · obtain ⟨h1, h2, cells, h3, h4⟩ := h.1 hn
    exact ⟨h1, h2, cells, (hm g h2 (Array.getElem?_eq_some_iff.1 h3).1).trans h3, h4⟩
  · exact Kd.R_mono (Kd.R_move (Kd.R_bound (h.2 j hj)) (fun k hk => hm k hk.2.1 hk.2.2.1)) (fun _ hk => hk.1)
theorem rowsap_below {n base g : Nat} {A : Option Addr} {V : Nat → Value} {Ls : Nat → List Int} {Fo : Nat → Nat} {W W' : World} (h : rowsap n base g A V Ls Fo W) (hb : Below W.heap.size W W') : rowsap n base g A V Ls Fo W' :=
  rowsap_step h (fun k _ hk => hb.block k hk)
theorem rowsap_cell {n base g : Nat} {A : Option Addr} {V : Nat → Value} {Ls : Nat → List Int} {Fo : Nat → Nat} {W : World} (h : rowsap n base g A V Ls Fo W) (j : Nat) (hj : j < n) : A = some ⟨g, 0, none⟩ ∧ W.cell? ⟨g, j, none⟩ = some (V j) := by
  obtain ⟨h1, _, cells, h3, h4⟩ := h.1 (by omega)
  exact ⟨h1, by simp [World.cell?, h3, h4 j hj]⟩
theorem rowsap_C {n base g : Nat} {A : Option Addr} {V : Nat → Value} {Ls : Nat → List Int} {Fo : Nat → Nat} {W : World} (h : rowsap n base g A V Ls Fo W) (hn : n ≤ 2000) : Kd.C (Kd.slice 3 (Kd.int .i64)) W A n ((List.range n).map Ls) := by
  refine ⟨by simp, by omega, fun h0 => ⟨⟨g, 0, none⟩, (h.1 h0).1, fun j p hj => ?_⟩⟩
  have hjl : j < n := by
    have := (List.getElem?_eq_some_iff.1 hj).1
    simpa using this
  have hp : Ls j = p := by
    rw [List.getElem?_map, List.getElem?_range hjl] at hj
    exact Option.some.inj hj
  obtain ⟨A', c', hv, hl, hC⟩ := Kd.R_reads (h.2 j hjl)
  refine ⟨[V j], rfl, ⟨A', c', by rw [hv, ← hp], by rw [← hp]; exact hl, by rw [← hp]; exact hC⟩, fun i u hu => ?_⟩
  have hi : i = 0 := by
    have := (List.getElem?_eq_some_iff.1 hu).1
    simp at this
    exact this
  subst hi
  have hu' : V j = u := by simpa using hu
  rw [← hu', add_plain]
  show W.cell? ⟨g, j * 1 + 0, none⟩ = _
  rw [Nat.mul_one, Nat.add_zero]
  exact (rowsap_cell h j hjl).2
theorem rowsap_row {n base g i : Nat} {A : Option Addr} {V : Nat → Value} {Ls : Nat → List Int} {Fo : Nat → Nat} {W W' : World} {L' : List Int} (h : rowsap n base g A V Ls Fo W) (hi : i < n)
    (hR : Kd.R (Kd.int .i64) 3 W' base (fun k => ((Fo k = i ∧ k ≠ g) ∨ W.heap.size ≤ k)) (V i) L') (hK : Kept W W' (fun k => Fo k = i ∧ k ≠ g)) :
    rowsap n base g A V (fun j => if j = i then L' else Ls j) Fo W' := by
  refine ⟨fun hn => ?_, fun j hj => ?_⟩
  · obtain ⟨h1, h2, cells, h3, h4⟩ := h.1 hn
    exact ⟨h1, h2, cells, (hK.2 g (Array.getElem?_eq_some_iff.1 h3).1 (fun hk => hk.2 rfl)).trans h3, h4⟩
  · by_cases e : j = i
    · subst e
      dsimp only
      rw [if_pos rfl]
      exact Kd.R_reok rfl hR (fun k hk => (h.2 j hj).1 k hk)
    · show Kd.R (Kd.int .i64) 3 W' base (fun k => Fo k = j ∧ k ≠ g) (V j) (if j = i then L' else Ls j)
      rw [if_neg e]
      refine Kd.R_mono (Kd.R_move (Kd.R_bound (h.2 j hj)) (fun k hk => ?_)) (fun _ hk => hk.1)
      exact hK.2 k hk.2.2.1 (fun hk' => e (hk.1.1.symm.trans hk'.1))
set_option maxRecDepth 100000 in
set_option maxHeartbeats 4000000 in
theorem markIntSS_calls (n base g c : Nat) (A : Option Addr) (V : Nat → Value) (Ls Ms : Nat → List Int) (st : Nat → Int) (Fo : Nat → Nat) (w0 W : World) (hw0 : w0.heap.size = base) (h : rowsap n base g A V Ls Fo W) (hB : Below base w0 W) (hn : n ≤ 2000) (hc : n ≤ c) (kk : Nat) (hm : ∀ i, i < n → laws_markIntS.f kk (Ls i) (st i) = some (st (i + 1), Ms i)) :
    Calls Try.prog 38 #[.slice A n c, .int .i64 (st 0)] W fun e w' => e = .returned (.int .i64 (st n)) ∧ rowsap n base g A V Ms Fo w' ∧ Below base w0 w' ∧ W.heap.size ≤ w'.heap.size := by
  have HR := Aside0.mk h
  have HB := Aside0.mk hB
  have HM := Aside0.mk hm
  clear h hB hm
  go_enter Try.func38, Try.ntmps38
  go_wp2
  go_loopw [1, 5] (fun vk vi wr => ∃ i : Nat, i ≤ n ∧ vk = .int .i64 (st i) ∧ vi = .int .i64 (i : Int) ∧ rowsap n base g A V (fun j => if j < i then Ms j else Ls j) Fo wr ∧ Below base w0 wr ∧ W.heap.size ≤ wr.heap.size)
    (fun _ vi _ => (2001 - intOf vi).toNat)
  case atStart => exact ⟨0, by omega, rfl, by simp, by simpa using HR.out, HB.out, Nat.le_refl _⟩
  case round =>
    obtain ⟨i, hi, rfl, rfl, hR, hB, hS⟩ := hrel
    have HRr := Aside0.mk hR
    have HBr := Aside0.mk hB
    have HSr := Aside0.mk hS
    clear hR hB hS
    by_cases hc : i < n
    · have hci : (i : Int) < (n : Int) := by omega
      have hw1 : wrap64 ((i : Int) + 1) = (i : Int) + 1 := by unfold wrap64; omega
      obtain ⟨hA, hcell⟩ := rowsap_cell HRr.out i hc
      subst hA
      have hl : (if i < i then Ms i else Ls i) = Ls i := if_neg (by omega)
      have hmi := HM.out i hc
      have HT := Aside0.mk (show Kd.R (Kd.int .i64) 3 wr base (fun k => Fo k = i ∧ k ≠ g) (V i) (Ls i) from by have h := HRr.out.2 i hc; dsimp only at h; rw [hl] at h; exact h)
      have HF := Aside0.mk (show i + 1 ≤ n ∧ (2001 - ((i : Int) + 1)).toNat < (2001 - (i : Int)).toNat from ⟨by omega, by omega⟩)
      clear hl
      go_wp2_with (go_at_call 37; refine (laws_markIntS.calls kk (fun k => Fo k = i ∧ k ≠ g) (V i) (Ls i) (st i) (st (i + 1)) (Ms i) w0 _ (by rw [hw0]; exact HBr.out) (by rw [hw0]; exact HT.out) hmi).mono ?_; rintro e w7 ⟨rfl, hR7, hB7, hK7⟩; have HR7 := Aside0.mk hR7; have HB7 := Aside0.mk hB7; have HK7 := Aside0.mk hK7; clear hR7 hB7 hK7)
      go_roundw
      case rel =>
        refine ⟨i + 1, HF.out.1, rfl, by simp [hw1], ?_, by have := HB7.out; rw [hw0] at this; exact this, Nat.le_trans HSr.out HK7.out.1⟩
        have hrow := rowsap_row HRr.out hc (by have := HR7.out; rw [hw0] at this; exact this) HK7.out
        have e : (fun j => if j = i then Ms i else if j < i then Ms j else Ls j) = (fun j => if j < i + 1 then Ms j else Ls j) := by
          funext j
          by_cases e1 : j = i
          · subst e1
            rw [if_pos rfl, if_pos (by omega)]
          · rw [if_neg e1]
            by_cases e2 : j < i
            · rw [if_pos e2, if_pos (by omega)]
            · rw [if_neg e2, if_neg (by omega)]
        rw [e] at hrow
        exact hrow
      case measure => simpa [intOf, hw1] using HF.out.2
    · have hci : ((i : Int) < (n : Int)) = False := eq_false (by omega)
      obtain rfl : i = n := by omega
      go_wp2
      go_ret
      refine ⟨rfl, ⟨HRr.out.1, fun j hj => ?_⟩, HBr.out, HSr.out⟩
      have := HRr.out.2 j hj
      dsimp only at this
      rw [if_pos hj] at this
      exact this
theorem rowsap_lower {n base base' g : Nat} {A : Option Addr} {V : Nat → Value} {Ls : Nat → List Int} {Fo : Nat → Nat} {W : World} (h : rowsap n base g A V Ls Fo W) (hb : base' ≤ base) : rowsap n base' g A V Ls Fo W :=
  ⟨fun hn => ⟨(h.1 hn).1, Nat.le_trans hb (h.1 hn).2.1, (h.1 hn).2.2⟩, fun j hj => Kd.R_lower (h.2 j hj) hb⟩
theorem rowsap_congr {n base g : Nat} {A : Option Addr} {V : Nat → Value} {Ls Ls' : Nat → List Int} {Fo : Nat → Nat} {W : World} (h : rowsap n base g A V Ls Fo W) (he : ∀ j, j < n → Ls j = Ls' j) : rowsap n base g A V Ls' Fo W :=
  ⟨h.1, fun j hj => by rw [← he j hj]; exact h.2 j hj⟩
/-- A list's rows. -/
def rowOf (r : List (List Int)) (j : Nat) : List Int := r.getD j []
theorem rowOf_map (r : List (List Int)) : (List.range r.length).map (rowOf r) = r := by
  apply List.ext_getElem?
  intro j
  rw [List.getElem?_map]
  by_cases h : j < r.length
  · rw [List.getElem?_range h]
    simp [rowOf, List.getD_eq_getElem?_getD, List.getElem?_eq_getElem h]
  · rw [List.getElem?_eq_none (by simp; omega), List.getElem?_eq_none (by omega)]
    rfl
theorem rowsap_reads {n base g : Nat} {A : Option Addr} {V : Nat → Value} {Fo : Nat → Nat} {W : World} {r : List (List Int)} (h : rowsap n base g A V (rowOf r) Fo W) (hl : r.length = n) (hn : n ≤ 2000) : Kd.C (Kd.slice 3 (Kd.int .i64)) W A r.length r := by
  have := rowsap_C h hn
  rw [← hl, rowOf_map] at this
  exact this
theorem heldIntSS_ap {n base g c : Nat} {A : Option Addr} {V : Nat → Value} {Fo : Nat → Nat} {W : World} {r : List (List Int)} (k : Nat) (q : Int) (h : rowsap n base g A V (rowOf r) Fo W) (hl : r.length = n) (hn : n ≤ 2000) (hc : n ≤ c) (hf : laws_heldIntSS.f k r 1 = some q) :
    Calls Try.prog 39 #[.slice A n c, .int .i64 1] W fun e w' => e = .returned (.int .i64 q) ∧ Drawn0 W w' := by
  have := laws_heldIntSS.calls k A c r 1 q W (rowsap_reads h hl hn) (by omega) hf
  rw [hl] at this
  exact this
/-- What comes back: a list of lists whose rows lie apart, and a truth value. -/
def apRes (b : Bool) (r : List (List Int)) (w : World) (e : Ending) (w' : World) : Prop := ∃ (g : Nat) (A : Option Addr) (c : Nat) (V : Nat → Value) (Fo : Nat → Nat), e = .returned (.tuple #[.slice A r.length c, .bool b]) ∧ r.length ≤ c ∧ r.length ≤ 2000 ∧ rowsap r.length w.heap.size g A V (rowOf r) Fo w' ∧ Below w.heap.size w w'
theorem apRes_nil (w w' : World) (hb : Below w.heap.size w w') : apRes false [] w (.returned (.tuple #[.slice none 0 0, .bool false])) w' :=
  ⟨0, none, 0, fun _ => .slice none 0 0, fun _ => 0, rfl, Nat.le_refl _, by simp, rowsap_nil _ _ _ _ _ _ _, hb⟩
end Go.Proofs.Ytecmlikhmkcdpaa.G
