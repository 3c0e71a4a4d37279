/- Readings opened: an argument that reads as data has the cells of a kind; an argument reads behind a call that only made new memory as it did before. -/
import Derived.Test.YtjeklcgflocfoaaDoorRows
import Derived.Test.YtjeklcgflocfoaaDoorVP0
import Derived.WalkKit
import Derived.ProofKit
import Derived.OpenShut
import Derived.ShutString
import Derived.ChangeOld
import Derived.Below
import Derived.SizedLaws
import Derived.Carry
import Derived.Deep.Slices
import Derived.Deep.Fields
import Derived.ChangeSame
namespace Go.Proofs.YtjeklcgflocfoaaDoor.MBase
open Go.ChangeShapes Go.WideShapes Go.ChangeAt Go.RowKit Go.Deep Go.Proofs.YtjeklcgflocfoaaDoorW.PrintWords
set_option linter.unusedVariables false

/-- Whatever reads as a datum of type t has the cells of kind d, with a value that is ok. -/
def Opens {α : Type} (P : Program) (t : TypeId) (d : Kd α) (ok : α → Prop) : Prop :=
  ∀ {H : Type} (enc : TypeId × Value → H) (w : World) (base : Nat) (spare : Nat → Bool) (held : Bool) (fuel : Nat) (cs : List Value) (x : DataW H × List MemPlace),
    DataW.trod enc P w base spare held fuel t cs = some x → ∃ v : α, d.K w v cs ∧ ok v

section
variable {P : Program} {t e : TypeId}
theorem opens_int {k : IntKind} (ht : P.underlying t = some (.int k)) : Opens P t (Kd.int k) (fun n => (Lit.int k n).wf = true) := by
  intro H enc w base spare held fuel cs x h
  obtain ⟨n, rfl, _, hw⟩ := DataW.trod_int ht h
  exact ⟨n, rfl, hw⟩
theorem opens_string (ht : P.underlying t = some .string) : Opens P t Kd.string (fun s => s.size ≤ maxLen) := by
  intro H enc w base spare held fuel cs x h
  obtain ⟨s, rfl, _, hw⟩ := DataW.trod_string ht h
  exact ⟨s, rfl, hw⟩
theorem opens_iso {α β : Type} {d : Kd α} {ok : α → Prop} (f : β → α) (g : α → β) (hfg : ∀ a, f (g a) = a) (h : Opens P t d ok) : Opens P t (Kd.iso d f) (fun b => ok (f b)) := by
  intro H enc w base spare held fuel cs x hx
  obtain ⟨v, hv, ho⟩ := h enc w base spare held fuel cs x hx
  refine ⟨g v, ?_, ?_⟩
  · show d.K w (f (g v)) cs
    rw [hfg]; exact hv
  · show ok (f (g v))
    rw [hfg]; exact ho

theorem opens_struct2 {α0 α1 : Type} {d0 : Kd α0} {d1 : Kd α1} {ok0 : α0 → Prop} {ok1 : α1 → Prop} {f0 f1 : Field} (hs : P.underlying t = some (.struct #[f0, f1])) (hone : oneCellFields P #[f0, f1] = true) (hC : P.cellsOf t = 2)
    (h0 : Opens P f0.type d0 ok0) (h1 : Opens P f1.type d1 ok1) : Opens P t (Kd.pair d0 d1) (fun x => ok0 x.1 ∧ ok1 x.2) := by
  intro H enc w base spare held fuel cs x hx
  obtain ⟨xs, n, _, _, hlen, hl2, hg⟩ := DataW.trod_struct hs hx
  rw [hC] at hlen
  obtain ⟨o0, k0⟩ := hone_of hone 0 f0 rfl
  obtain ⟨o1, k1⟩ := hone_of hone 1 f1 rfl
  match cs, hlen with
  | [c0, c1], _ =>
    match xs, hl2 with
    | [y0, y1], _ =>
      obtain ⟨v0, hv0, ho0⟩ := h0 enc w base spare held n [c0] y0 (by simpa [o0, k0] using hg 0 f0 rfl)
      obtain ⟨v1, hv1, ho1⟩ := h1 enc w base spare held n [c1] y1 (by simpa [o1, k1] using hg 1 f1 rfl)
      exact ⟨(v0, v1), ⟨[c0], [c1], rfl, hv0, hv1⟩, ho0, ho1⟩
theorem opens_struct4 {α0 α1 α2 α3 : Type} {d0 : Kd α0} {d1 : Kd α1} {d2 : Kd α2} {d3 : Kd α3} {ok0 : α0 → Prop} {ok1 : α1 → Prop} {ok2 : α2 → Prop} {ok3 : α3 → Prop} {f0 f1 f2 f3 : Field} (hs : P.underlying t = some (.struct #[f0, f1, f2, f3])) (hone : oneCellFields P #[f0, f1, f2, f3] = true) (hC : P.cellsOf t = 4)
    (h0 : Opens P f0.type d0 ok0) (h1 : Opens P f1.type d1 ok1) (h2 : Opens P f2.type d2 ok2) (h3 : Opens P f3.type d3 ok3) : Opens P t (Kd.pair d0 (Kd.pair d1 (Kd.pair d2 d3))) (fun x => ok0 x.1 ∧ ok1 x.2.1 ∧ ok2 x.2.2.1 ∧ ok3 x.2.2.2) := by
  intro H enc w base spare held fuel cs x hx
  obtain ⟨xs, n, _, _, hlen, hl2, hg⟩ := DataW.trod_struct hs hx
  rw [hC] at hlen
  obtain ⟨o0, k0⟩ := hone_of hone 0 f0 rfl
  obtain ⟨o1, k1⟩ := hone_of hone 1 f1 rfl
  obtain ⟨o2, k2⟩ := hone_of hone 2 f2 rfl
  obtain ⟨o3, k3⟩ := hone_of hone 3 f3 rfl
  match cs, hlen with
  | [c0, c1, c2, c3], _ =>
    match xs, hl2 with
    | [y0, y1, y2, y3], _ =>
      obtain ⟨v0, hv0, ho0⟩ := h0 enc w base spare held n [c0] y0 (by simpa [o0, k0] using hg 0 f0 rfl)
      obtain ⟨v1, hv1, ho1⟩ := h1 enc w base spare held n [c1] y1 (by simpa [o1, k1] using hg 1 f1 rfl)
      obtain ⟨v2, hv2, ho2⟩ := h2 enc w base spare held n [c2] y2 (by simpa [o2, k2] using hg 2 f2 rfl)
      obtain ⟨v3, hv3, ho3⟩ := h3 enc w base spare held n [c3] y3 (by simpa [o3, k3] using hg 3 f3 rfl)
      exact ⟨(v0, v1, v2, v3), ⟨[c0], [c1, c2, c3], rfl, hv0, ⟨[c1], [c2, c3], rfl, hv1, ⟨[c2], [c3], rfl, hv2, hv3⟩⟩⟩, ho0, ho1, ho2, ho3⟩
theorem opens_struct5 {α0 α1 α2 α3 α4 : Type} {d0 : Kd α0} {d1 : Kd α1} {d2 : Kd α2} {d3 : Kd α3} {d4 : Kd α4} {ok0 : α0 → Prop} {ok1 : α1 → Prop} {ok2 : α2 → Prop} {ok3 : α3 → Prop} {ok4 : α4 → Prop} {f0 f1 f2 f3 f4 : Field} (hs : P.underlying t = some (.struct #[f0, f1, f2, f3, f4])) (hone : oneCellFields P #[f0, f1, f2, f3, f4] = true) (hC : P.cellsOf t = 5)
    (h0 : Opens P f0.type d0 ok0) (h1 : Opens P f1.type d1 ok1) (h2 : Opens P f2.type d2 ok2) (h3 : Opens P f3.type d3 ok3) (h4 : Opens P f4.type d4 ok4) : Opens P t (Kd.pair d0 (Kd.pair d1 (Kd.pair d2 (Kd.pair d3 d4)))) (fun x => ok0 x.1 ∧ ok1 x.2.1 ∧ ok2 x.2.2.1 ∧ ok3 x.2.2.2.1 ∧ ok4 x.2.2.2.2) := by
  intro H enc w base spare held fuel cs x hx
  obtain ⟨xs, n, _, _, hlen, hl2, hg⟩ := DataW.trod_struct hs hx
  rw [hC] at hlen
  obtain ⟨o0, k0⟩ := hone_of hone 0 f0 rfl
  obtain ⟨o1, k1⟩ := hone_of hone 1 f1 rfl
  obtain ⟨o2, k2⟩ := hone_of hone 2 f2 rfl
  obtain ⟨o3, k3⟩ := hone_of hone 3 f3 rfl
  obtain ⟨o4, k4⟩ := hone_of hone 4 f4 rfl
  match cs, hlen with
  | [c0, c1, c2, c3, c4], _ =>
    match xs, hl2 with
    | [y0, y1, y2, y3, y4], _ =>
      obtain ⟨v0, hv0, ho0⟩ := h0 enc w base spare held n [c0] y0 (by simpa [o0, k0] using hg 0 f0 rfl)
      obtain ⟨v1, hv1, ho1⟩ := h1 enc w base spare held n [c1] y1 (by simpa [o1, k1] using hg 1 f1 rfl)
      obtain ⟨v2, hv2, ho2⟩ := h2 enc w base spare held n [c2] y2 (by simpa [o2, k2] using hg 2 f2 rfl)
      obtain ⟨v3, hv3, ho3⟩ := h3 enc w base spare held n [c3] y3 (by simpa [o3, k3] using hg 3 f3 rfl)
      obtain ⟨v4, hv4, ho4⟩ := h4 enc w base spare held n [c4] y4 (by simpa [o4, k4] using hg 4 f4 rfl)
      exact ⟨(v0, v1, v2, v3, v4), ⟨[c0], [c1, c2, c3, c4], rfl, hv0, ⟨[c1], [c2, c3, c4], rfl, hv1, ⟨[c2], [c3, c4], rfl, hv2, ⟨[c3], [c4], rfl, hv3, hv4⟩⟩⟩⟩, ho0, ho1, ho2, ho3, ho4⟩

theorem list_of_all {α : Type} (n : Nat) (R : Nat → α → Prop) (h : ∀ i, i < n → ∃ a, R i a) : ∃ xs : List α, xs.length = n ∧ ∀ i a, xs[i]? = some a → R i a := by
  induction n with
  | zero => exact ⟨[], rfl, fun i a hi => by simp at hi⟩
  | succ n ih =>
    obtain ⟨xs, hl, hx⟩ := ih (fun i hi => h i (by omega))
    obtain ⟨a, ha⟩ := h n (by omega)
    refine ⟨xs ++ [a], by simp [hl], fun i b hb => ?_⟩
    by_cases hi : i < xs.length
    · rw [List.getElem?_append_left hi] at hb
      exact hx i b hb
    · rw [List.getElem?_append_right (by omega)] at hb
      by_cases hi2 : i = xs.length
      · subst hi2
        simp at hb
        subst hb
        rw [hl]; exact ha
      · rw [List.getElem?_eq_none (by simp; omega)] at hb
        cases hb

theorem opens_slice {α : Type} {d : Kd α} {ok : α → Prop} (ht : P.underlying t = some (.slice e)) (hC : P.cellsOf e = d.sz) (he : Opens P e d ok) :
    Opens P t (Kd.slice e d) (fun xs => xs.length ≤ maxLen ∧ ∀ x ∈ xs, ok x) := by
  intro H enc w base spare held fuel cs x hx
  rcases open_slice ht hx with ⟨rfl, rfl⟩ | ⟨a, len, cap, m, n, D, Pl, rfl, hb, hl, hm, hmm, rfl, hi⟩
  · exact ⟨[], ⟨none, 0, rfl, Nat.le_refl _, ⟨rfl, Nat.zero_le _, fun h => absurd h (Nat.not_lt_zero _)⟩⟩, by simp [maxLen], by simp⟩
  · have hlm : len ≤ m := by subst hmm; split <;> omega
    obtain ⟨xs, hxl, hxs⟩ := list_of_all (α := α) len (fun i a' => ok a' ∧ ∃ c, c.length = d.sz ∧ d.K w a' c ∧ ∀ k u, c[k]? = some u → w.cell? (a.add (i * d.sz + k)) = some u) (fun i hil => by
      obtain ⟨cs', hc, ht'⟩ := hi i (by omega)
      rw [hC] at hc
      obtain ⟨v, hv, ho⟩ := he enc w base spare held n cs' _ ht'
      obtain ⟨_, hcl, hat⟩ := World.cells?_some hc
      refine ⟨v, ho, cs', hcl, hv, fun k u hu => ?_⟩
      have hk : k < d.sz := by rw [← hcl]; exact (List.getElem?_eq_some_iff.1 hu).1
      rw [← Go.Deep.add_add, hat k hk, hu])
    subst hxl
    refine ⟨xs, ⟨some a, cap, rfl, hl, ⟨rfl, ?_, fun _ => ⟨a, rfl, fun j p hp => ?_⟩⟩⟩, by omega, fun p hp => ?_⟩
    · unfold maxLen at hm; omega
    · obtain ⟨ho, c, h1, h2, h3⟩ := hxs j p hp
      exact ⟨c, h1, h2, h3⟩
    · obtain ⟨j, hj⟩ := List.getElem?_of_mem hp
      exact (hxs j p hj).1

/-- A slice that came in, as a value. -/
theorem slice_arg {α : Type} {d : Kd α} {ok : α → Prop} (ht : P.underlying t = some (.slice e)) (hC : P.cellsOf e = d.sz) (he : Opens P e d ok) {H : Type} {enc : TypeId × Value → H} {w : World} {base : Nat} {spare : Nat → Bool} {held : Bool} {b0 : Nat} {v : Value} {dd : DataW H} {p : List MemPlace}
    (hv : Value.okWide P w .any b0 t v) (h : DataW.Trod enc P w base spare held t v dd p) : ∃ (A : Option Addr) (c : Nat) (xs : List α), v = .slice A xs.length c ∧ xs.length ≤ c ∧ Kd.C d w A xs.length xs ∧ xs.length ≤ maxLen ∧ ∀ x ∈ xs, ok x := by
  obtain ⟨fuel, hf⟩ := h
  obtain ⟨xs, ⟨A, c, hcs, hl, hr⟩, hm, ho⟩ := opens_slice ht hC he enc w base spare held fuel _ _ hf
  obtain ⟨a', l', c', rfl⟩ := okWide_slice ht hv
  obtain ⟨rfl, rfl, rfl⟩ : a' = A ∧ l' = xs.length ∧ c' = c := by simpa [Value.cells] using hcs
  exact ⟨_, _, xs, rfl, hl, hr, hm, ho⟩

/-- A struct by value. -/
theorem struct_arg {α : Type} {d : Kd α} {ok : α → Prop} {fs : Array Field} (ht : P.underlying t = some (.struct fs)) (he : Opens P t d ok) {H : Type} {enc : TypeId × Value → H} {w : World} {base : Nat} {spare : Nat → Bool} {held : Bool} {b0 : Nat} {v : Value} {dd : DataW H} {p : List MemPlace}
    (hv : Value.okWide P w .any b0 t v) (h : DataW.Trod enc P w base spare held t v dd p) : ∃ (cs : Array Value) (x : α), v = .agg cs ∧ d.K w x cs.toList ∧ ok x := by
  obtain ⟨fuel, hf⟩ := h
  obtain ⟨cs, rfl, hsz⟩ := okWide_struct ht hv
  obtain ⟨x, hx, ho⟩ := he enc w base spare held fuel _ _ hf
  exact ⟨cs, x, rfl, hx, ho⟩

/-- The arguments read behind the call as they did before. -/
theorem below_trodAll {H : Type} {enc : TypeId × Value → H} (hl : laidOutB P = true) {W W' : World} (hb : Below W.heap.size W W') :
    ∀ {ts : List TypeId} {vs : List Value} {ds : List (DataW H)} {ps : List MemPlace}, (ts.all fun t => P.readableRec t && decide (t < P.types.size)) = true →
      DataW.TrodAll enc P W 0 (fun _ => true) true ts vs ds ps → (∀ x ∈ ps, x.block < W.heap.size) → DataW.TrodAll enc P W' 0 (fun b => decide (b < W.heap.size)) true ts vs ds ps
  | [], [], [], _, _, h, _ => h
  | [], _ :: _, _, _, _, h, _ => by simp [DataW.TrodAll] at h
  | [], [], _ :: _, _, _, h, _ => by simp [DataW.TrodAll] at h
  | _ :: _, [], _, _, _, h, _ => by simp [DataW.TrodAll] at h
  | _ :: _, _ :: _, [], _, _, h, _ => by simp [DataW.TrodAll] at h
  | t :: ts, v :: vs, d :: ds, ps, hv, h, hlt => by
    obtain ⟨p, q, h1, h2, rfl⟩ := h
    simp only [List.all_cons, Bool.and_eq_true, decide_eq_true_eq] at hv
    exact ⟨p, q, Below.trod hl hv.1.1 hv.1.2 h1 hb (fun x hx => hlt x (List.mem_append_left _ hx)), below_trodAll hl hb hv.2 h2 (fun x hx => hlt x (List.mem_append_right _ hx)), rfl⟩
end
end Go.Proofs.YtjeklcgflocfoaaDoor.MBase
