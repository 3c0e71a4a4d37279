/- exBuilt.once: what it gives back stands in the list of what is done, and what was done stays. Plain. -/
import Derived.Test.YtecmlikhmkcdpaaEShare
namespace Go.Proofs.Ytecmlikhmkcdpaa.E
open Go.RowKit Go.Proofs.YtecmlikhmkcdpaaW.PrintWords Go.Proofs.YtecmlikhmkcdpaaW.PrintLast Go.Proofs.YtecmlikhmkcdpaaW.PrintMore
set_option linter.unusedVariables false
theorem rd_set_ne {ds : List Int} (i j : Int) (h0 : 0 ≤ i) (h1 : 0 ≤ j) (h : j ≠ i) {x : Int} : rd (ds.set i.toNat x) j = rd ds j := by
  unfold rd
  have hne : i.toNat ≠ j.toNat := by omega
  simp [List.getD_eq_getElem?_getD, List.getElem?_set_ne hne]
theorem putN_pos (X : S79) (nodes : List S79) : 0 ≤ (putN X nodes).1 := by
  unfold putN
  split <;> simp
theorem once_facts : ∀ k e i nodes ds r1 r2 r3, exb_once.f k e i nodes ds = some (r1, r2, r3) → ds.length = e.length →
    (rd r3 i = r1 ∧ 0 ≤ r1) ∧ ∀ j : Int, 0 ≤ j → 0 ≤ rd ds j → rd r3 j = rd ds j := by
  intro k
  induction k with
  | zero => intro e i nodes ds r1 r2 r3 h; cases h
  | succ k ih =>
    intro e i nodes ds r1 r2 r3 h hl
    simp only [exb_once.f] at h
    split at h
    · next hi0 =>
      split at h
      · next hi1 =>
        split at h
        · next hd =>
          cases h
          exact ⟨⟨rfl, hd⟩, fun j _ _ => rfl⟩
        · next hd =>
          obtain ⟨ps, _, h⟩ := Option.bind_eq_some_iff.mp h
          obtain ⟨a, ha, h⟩ := Option.bind_eq_some_iff.mp h
          obtain ⟨b, hb, h⟩ := Option.bind_eq_some_iff.mp h
          have fa : a.2.2.length = ds.length ∧ ∀ j : Int, 0 ≤ j → 0 ≤ rd ds j → rd a.2.2 j = rd ds j := by
            split at ha
            · exact ⟨exb_once.len _ _ _ _ _ a.1 a.2.1 a.2.2 ha, (ih _ _ _ _ a.1 a.2.1 a.2.2 ha hl).2⟩
            · cases ha; exact ⟨rfl, fun _ _ _ => rfl⟩
          have fb : b.2.2.length = a.2.2.length ∧ ∀ j : Int, 0 ≤ j → 0 ≤ rd a.2.2 j → rd b.2.2 j = rd a.2.2 j := by
            split at hb
            · exact ⟨exb_once.len _ _ _ _ _ b.1 b.2.1 b.2.2 hb, (ih _ _ _ _ b.1 b.2.1 b.2.2 hb (by rw [fa.1, hl])).2⟩
            · cases hb; exact ⟨rfl, fun _ _ _ => rfl⟩
          split at h
          · cases h
            refine ⟨⟨rd_set i hi0 (by rw [fb.1, fa.1, hl]; exact hi1), putN_pos _ _⟩, fun j hj hdj => ?_⟩
            have hji : j ≠ i := fun e => hd (e ▸ hdj)
            have e1 := fa.2 j hj hdj
            rw [rd_set_ne i j hi0 hj hji, fb.2 j hj (by rw [e1]; exact hdj), e1]
          · cases h
      · cases h
    · cases h
end Go.Proofs.Ytecmlikhmkcdpaa.E
