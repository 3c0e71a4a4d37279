/- Rows of nodes that lie apart, marked. -/
import Derived.Test.YtecmlikhmkcdpaaILawsEqNode
namespace Go.Proofs.Ytecmlikhmkcdpaa.I
open Go.RowKit Go.Proofs.YtecmlikhmkcdpaaW.PrintWords Go.Proofs.YtecmlikhmkcdpaaW.PrintLast Go.Proofs.YtecmlikhmkcdpaaW.PrintMore
attribute [local go_sem] max2_int min2_int max_two min_two max_three min_three max_four min_four
set_option linter.unusedVariables false
set_option linter.unusedSimpArgs false
theorem hx_step {α : Type} {d : Kd α} {e base : Nat} {w w1 : World} {ok oki : Nat → Prop} {v : Value} {xs : List α} {i : Int} {c : List Value} (h : Kd.H d e w base ok v xs i oki c) (hm : ∀ k, ok k → ¬ oki k → k < w.heap.size → w1.heap[k]? = w.heap[k]?) : Kd.H d e w1 base ok v xs i oki c := by
  obtain ⟨ho, f, h⟩ := h
  exact ⟨ho, f, Kd.R_step h (fun k hk hlt => hm k hk.1 hk.2 hlt)⟩
set_option maxRecDepth 100000 in
set_option maxHeartbeats 4000000 in
theorem markss_calls (kk : Nat) (ok : Nat → Prop) (A : Option Addr) (c : Nat) (xs : List (List S79)) (Ms : Nat → List S79) (st : Nat → Int) (w0 W : World) (hB : Below w0.heap.size w0 W) (h : Kd.S (Kd.slice 79 k79) 33 W w0.heap.size ok (.slice A xs.length c) xs) (hm : ∀ i, i < xs.length → laws_markNodeS.f kk (xs.getD i []) (st i) = some (st (i + 1), Ms i)) :
    Calls Try.prog 45 #[.slice A xs.length c, .int .i64 (st 0)] W fun e w' => e = .returned (.int .i64 (st xs.length)) ∧ Below w0.heap.size w0 w' ∧ Kept W w' ok := by
  have HR := Aside0.mk h
  have HB := Aside0.mk hB
  have HM := Aside0.mk hm
  obtain ⟨n, hn⟩ : ∃ n : Nat, n = xs.length := ⟨_, rfl⟩
  have HN := Aside0.mk hn
  have HL := Aside0.mk (show n ≤ 9223372036854775807 from by rw [hn]; exact (Kd.S_reads' h).2.2.2.1)
  rw [← hn] at HR
  rw [← hn]
  clear h hB hm hn
  go_enter Try.func45, Try.ntmps45
  go_wp2
  go_loopw [1, 5] (fun vk vi wr => ∃ (i : Nat) (ys : List (List S79)), i ≤ n ∧ vk = .int .i64 (st i) ∧ vi = .int .i64 (i : Int) ∧ Aside0 (ys.length = n ∧ ∀ j, i ≤ j → ys.getD j [] = xs.getD j []) ∧ Aside0 (Kd.S (Kd.slice 79 k79) 33 wr w0.heap.size ok (.slice A n c) ys) ∧ Aside0 (Below w0.heap.size w0 wr) ∧ Aside0 (Kept W wr ok))
    (fun _ vi _ => ((n : Int) + 1 - intOf vi).toNat)
  case atStart => exact ⟨0, xs, by omega, rfl, by simp, ⟨⟨HN.out.symm, fun _ _ => rfl⟩⟩, HR, HB, ⟨Kept.refl _ _⟩⟩
  case round =>
    obtain ⟨i, ys, hi, rfl, rfl, HY, HRr, HBr, HKr⟩ := hrel
    by_cases hc : i < n
    · have hci : (i : Int) < (n : Int) := by omega
      have hw1 : wrap64 ((i : Int) + 1) = (i : Int) + 1 := by have := HL.out; unfold wrap64; omega
      obtain ⟨g, c', eA, hgb, hgl, _⟩ := Kd.S_form HRr.out (by have := HY.out.1; omega)
      injection eA with eA en ec
      subst eA
      obtain ⟨oki, cs, hcl, hM, hcc, hfr, hoki, hH⟩ := Kd.S_elem HRr.out [] (i : Int) (by omega) (by omega)
      obtain ⟨v, rfl, hv⟩ := hM
      have hcell := hcc 0 _ rfl
      simp only [show (Kd.slice 79 k79).sz = 1 from rfl, Nat.mul_one, Nat.add_zero, Int.toNat_natCast] at hcell
      have hmi := HM.out i (by have := HN.out; omega)
      have HT := Aside0.mk (show Kd.R k79 79 wr w0.heap.size oki v (xs.getD i []) from by rw [← HY.out.2 i (Nat.le_refl _)]; simpa using hv)
      have HH := Aside0.mk hH
      have HO := Aside0.mk hoki
      have HF := Aside0.mk (show i + 1 ≤ n ∧ ((n : Int) + 1 - ((i : Int) + 1)).toNat < ((n : Int) + 1 - (i : Int)).toNat from ⟨by omega, by omega⟩)
      have HMI := Aside0.mk hmi
      clear hcl hcc hfr hoki hH hv hmi en ec hgb hgl
      go_wp2_with (go_at_call 26; refine (laws_markNodeS.calls kk oki v (xs.getD i []) (st i) (st (i + 1)) (Ms i) w0 _ HBr.out HT.out HMI.out).mono ?_; rintro e w7 ⟨rfl, hR7, hB7, hK7⟩; have HR7 := Aside0.mk hR7; have HB7 := Aside0.mk hB7; have HK7 := Aside0.mk hK7; clear hR7 hB7 hK7)
      go_roundw
      case rel =>
        have hh := hx_step HH.out (w1 := w7) (fun k _ hn hlt => HK7.out.2 k hlt hn)
        have hrow : Kd.R k79 79 w7 w0.heap.size oki v (Ms i) := Kd.R_mono (Kd.R_tight rfl HR7.out) (fun k hk => HT.out.1 k hk.symm)
        have hS := Kd.H_back hh (x' := Ms i) (okp := oki) (Kd.M_row hrow) (fun _ hk => hk)
        rw [Int.toNat_natCast] at hS
        refine ⟨i + 1, ys.set i (Ms i), HF.out.1, rfl, by simp [hw1], ⟨⟨by rw [List.length_set]; exact HY.out.1, fun j hj => ?_⟩⟩, ⟨hS⟩, HB7, ⟨Nat.le_trans HKr.out.1 HK7.out.1, fun k hk hn => (HK7.out.2 k (Nat.lt_of_lt_of_le hk HKr.out.1) (fun ho => hn (HO.out k ho).1)).trans (HKr.out.2 k hk hn)⟩⟩
        rw [← HY.out.2 j (by omega)]
        simp only [List.getD_eq_getElem?_getD]
        rw [List.getElem?_set_ne (by omega)]
      case measure =>
        rw [hw1]
        exact HF.out.2
    · have hci : ((i : Int) < (n : Int)) = False := eq_false (by omega)
      obtain rfl : i = n := by omega
      go_wp2
      go_ret
      exact ⟨rfl, HBr.out, HKr.out⟩
theorem markss (kk : Nat) (ok : Nat → Prop) (A : Option Addr) (c : Nat) (xs : List (List S79)) (Ms : Nat → List S79) (st : Nat → Int) (w0 W : World) (hB : Below w0.heap.size w0 W) (h : Kd.S (Kd.slice 79 k79) 33 W w0.heap.size ok (.slice A xs.length c) xs) (h1 : st 0 = 1) (hm : ∀ i, i < xs.length → laws_markNodeS.f kk (xs.getD i []) (st i) = some (st (i + 1), Ms i)) :
    Calls Try.prog 45 #[.slice A xs.length c, .int .i64 1] W fun e w' => e = .returned (.int .i64 (st xs.length)) ∧ Below w0.heap.size w0 w' ∧ Kept W w' ok := by
  rw [← h1]
  exact markss_calls kk ok A c xs Ms st w0 W hB h hm
end Go.Proofs.Ytecmlikhmkcdpaa.I
