/- What the library holds where the row lists it; strings.Split, strconv.Atoi, strconv.Itoa and impl.number in plain words. -/
import Derived.Test.YtjeklcgflocfoaaDoorPImplFormImm
import Derived.Test.YtjeklcgflocfoaaDoorShelf2
namespace Go.Proofs.YtjeklcgflocfoaaDoor.P
open Go.RowKit Go.Proofs.YtjeklcgflocfoaaDoorW.PrintWords Go.Proofs.YtjeklcgflocfoaaDoorW.PrintLast Go.Proofs.YtjeklcgflocfoaaDoorW.PrintMore
set_option linter.unusedVariables false
set_option linter.unusedSimpArgs false
/-- The variables of the library, as their initialisers lay them. -/
structure PW (w : World) : Prop where
  tab : Lib.TabIs Tryd.prog w "internal/strconv.uint64pow10" .u64 Lib.pow10Tab
  most : ∃ m, w.cell? ⟨2, 0, none⟩ = some (.int .i64 m)
  syn : ∃ ev, w.cell? ⟨3, 0, none⟩ = some ev ∧ (ev = .nilIface ∨ ∃ te pe, ev = .iface te pe)
  rng : ∃ ev, w.cell? ⟨4, 0, none⟩ = some ev ∧ (ev = .nilIface ∨ ∃ te pe, ev = .iface te pe)
theorem cell_keeps {w w' : World} (hb : Below w.heap.size w w') {a : Addr} {v : Value} (h : w.cell? a = some v) : w'.cell? a = some v := by
  have hlt : a.block < w.heap.size := by
    rcases Nat.lt_or_ge a.block w.heap.size with hl | hl
    · exact hl
    · exfalso
      have e : w.heap[a.block]? = none := Array.getElem?_eq_none hl
      simp [World.cell?, e] at h
  rw [hb.cell (p := a) hlt]
  exact h
theorem var_keeps {w w' : World} (hb : Below w.heap.size w w') {n : String} {v : Array Value} (h : w.var? Tryd.prog n = some v) : w'.var? Tryd.prog n = some v := by
  unfold World.var? at h ⊢
  cases hg : Tryd.prog.globalNamed n with
  | none => rw [hg] at h; cases h
  | some g =>
    rw [hg] at h
    simp only [Option.bind_some] at h ⊢
    have hlt : g < w.heap.size := by
      rcases Nat.lt_or_ge g w.heap.size with hl | hl
      · exact hl
      · exfalso
        rw [Array.getElem?_eq_none hl] at h
        cases h
    rw [hb.block g hlt]
    exact h
theorem PW.below {w w' : World} (h : PW w) (hb : Below w.heap.size w w') : PW w' := by
  obtain ⟨h1, ⟨m, h2⟩, ⟨e3, h3, g3⟩, ⟨e4, h4, g4⟩⟩ := h
  exact ⟨var_keeps hb h1, ⟨m, cell_keeps hb h2⟩, ⟨e3, cell_keeps hb h3, g3⟩, ⟨e4, cell_keeps hb h4, g4⟩⟩
/-- strings.Split. -/
def strings_Split.f (k : Nat) (a0 a1 : ByteArray) : Option (List ByteArray) := if a0.size ≤ 1048576 ∧ 1 ≤ a1.size then some (Lib.splitB a1 0 (Lib.countB a0 a1) a0) else none
theorem strings_Split.mono : ∀ a0 a1 k, LeO (strings_Split.f k a0 a1) (strings_Split.f (k + 1) a0 a1) := fun _ _ _ => LeO.refl _
theorem Reps_strings {base : Nat} {W : World} {ok : Nat → Prop} : ∀ xs : List ByteArray, Reps (Kd.string.M W base ok) Kd.string.sz xs (xs.map Value.string)
  | [] => Reps.none _ _
  | x :: xs => Reps.one (show Kd.M Kd.string _ _ _ x [.string x] from rfl) (Reps_strings xs)
theorem strings_Split.calls (k : Nat) (a0 a1 : ByteArray) (r : List ByteArray) (w : World) (h : strings_Split.f k a0 a1 = some r) (hT : PW w) :
    Calls Tryd.prog 63 #[.string a0, .string a1] w fun e w' => ∃ v0_ : Value, e = .returned (v0_) ∧ Kd.R Kd.string 9 w' w.heap.size (fun _ => True) v0_ r ∧ Below w.heap.size w w' := by
  unfold strings_Split.f at h
  split at h
  · next hc =>
    obtain ⟨hs, h1⟩ := hc
    obtain rfl := Option.some.inj h
    obtain ⟨m, hm⟩ := hT.most
    refine (Tryd.strings_Split a0 a1 m w (by omega) hm h1).mono ?_
    rintro e w' ⟨rfl, rfl⟩
    have hl : (Lib.splitB a1 0 (Lib.countB a0 a1) a0).length = Lib.countB a0 a1 + 1 := Lib.splitB_all a1 h1 0 _ _ rfl
    have hcl : Lib.countB a0 a1 ≤ a0.size := Lib.countB_le a1 h1 a0.size a0 (Nat.le_refl _)
    refine ⟨_, rfl, ⟨fun _ _ => trivial, (Lib.splitB a1 0 (Lib.countB a0 a1) a0).map Value.string, ?_, ?_⟩, (Below.refl _ _).alloc (Nat.le_refl _) _⟩
    · have h2 := World.ownsRow_lit (base := w.heap.size) (e := 9) (size := Kd.string.sz) w ((Lib.splitB a1 0 (Lib.countB a0 a1) a0).map Value.string).toArray (Lib.splitB a1 0 (Lib.countB a0 a1) a0).length (Nat.le_refl _) (by rw [hl]; simp [maxLen]; omega) (by simp [Kd.string, Kd.scalar])
      rw [← hl]
      simpa using h2
    · exact (Reps_strings _)
  · cases h
/-- What impl.number gives back. -/
def num (l : List UInt8) (top : Int) : Int × Bool := match Lib.atoiAll l with
  | .ok v => if Lib.itoa v = l ∧ 0 ≤ v ∧ v ≤ top then (v, true) else (0, false)
  | _ => (0, false)
def impl_number.f (a0 : ByteArray) (a1 : Int) : Option (Int × Bool) := if a0.size ≤ 1048576 then some (num a0.data.toList a1) else none
theorem impl_number.mono : ∀ a0 a1, LeO (impl_number.f a0 a1) (impl_number.f a0 a1) := fun _ _ => LeO.refl _
theorem atoi_ok (s : ByteArray) (hs : s.size ≤ 1048576) (v : Int) (h : Lib.atoiAll s.data.toList = .ok v) (w : World) :
    Calls Tryd.prog 114 #[.string s] w fun e w' => e = .returned (.tuple #[.int .i64 v, .nilIface]) ∧ Below w.heap.size w w' := by
  refine (Tryd.strconv_Atoi_ok s (by omega) v h w).mono ?_
  rintro e w' ⟨rfl, rfl | ⟨t, rfl⟩⟩
  · exact ⟨rfl, Below.refl _ _⟩
  · exact ⟨rfl, Lib.bytesWorld_below _ 5 t⟩
theorem atoi_bad (s : ByteArray) (hs : s.size ≤ 1048576) (h : ∀ v, Lib.atoiAll s.data.toList ≠ .ok v) (w : World) (hT : PW w) :
    Calls Tryd.prog 114 #[.string s] w fun e w' => ∃ (n : Int) (N : Nat), e = .returned (.tuple #[.int .i64 n, .iface 167 (.pointer (some ⟨N, 0, none⟩))]) ∧ Below w.heap.size w w' := by
  cases hA : Lib.atoiAll s.data.toList with
  | ok v => exact absurd hA (h v)
  | «syntax» =>
    obtain ⟨ev, h1, h2⟩ := hT.syn
    refine (Tryd.strconv_Atoi_syntax s (by omega) hA ev w h1 h2).mono ?_
    rintro e w' ⟨N, rfl, _, _, hb⟩
    exact ⟨_, N, rfl, hb⟩
  | range =>
    obtain ⟨ev, h1, h2⟩ := hT.rng
    refine (Tryd.strconv_Atoi_range s (by omega) hA ev w h1 h2).mono ?_
    rintro e w' ⟨N, rfl, _, _, hb⟩
    exact ⟨_, N, rfl, hb⟩
theorem below_grow (w : World) (n : Nat) (os : Array Obj) : Below w.heap.size w (Sort.grow (w.drewN n) os) := by
  refine ⟨rfl, rfl, rfl, ?_, fun k hk => ?_⟩
  · show w.heap.size ≤ (w.heap ++ os).size
    rw [Array.size_append]; omega
  · show (w.heap ++ os)[k]? = w.heap[k]?
    rw [Array.getElem?_append_left hk]
theorem itoa_any (n : Int) (h0 : -9223372036854775808 ≤ n) (h1 : n ≤ 9223372036854775807) (w : World) (hT : PW w) :
    Calls Tryd.prog 98 #[.int .i64 n] w fun e w' => e = .returned (.string ⟨(Lib.itoa n).toArray⟩) ∧ Below w.heap.size w w' := by
  refine (Tryd.strconv_Itoa n h0 h1 w hT.tab).mono ?_
  rintro e w' ⟨rfl, q, os, rfl⟩
  exact ⟨rfl, below_grow _ _ _⟩
set_option maxHeartbeats 4000000 in
set_option maxRecDepth 100000 in
theorem impl_number.calls (a0 : ByteArray) (a1 : Int) (r1 : Int) (r2 : Bool) (w : World) (h : impl_number.f a0 a1 = some (r1, r2)) (hT : PW w) :
    Calls Tryd.prog 66 #[.string a0, .int .i64 a1] w fun e w' => e = .returned (.tuple #[.int .i64 r1, .bool r2]) ∧ Below w.heap.size w w' := by
  unfold impl_number.f at h
  split at h
  · next hs =>
    have h := Option.some.inj h
    have HB := Aside0.mk (Below.refl w.heap.size w)
    by_cases hA : ∃ v, Lib.atoiAll a0.data.toList = .ok v
    · obtain ⟨v, hA⟩ := hA
      have hv := Lib.atoiAll_bounds hA
      by_cases hI : Lib.itoa v = a0.data.toList
      · have hI2 : ((⟨(Lib.itoa v).toArray⟩ : ByteArray)) = a0 := by rw [hI]
        by_cases hW : 0 ≤ v ∧ v ≤ a1
        · have h2 : num a0.data.toList a1 = (v, true) := by unfold num; rw [hA]; simp only; rw [if_pos ⟨hI, hW.1, hW.2⟩]
          rw [h2] at h
          obtain ⟨rfl, rfl⟩ := Prod.mk.inj h
          have hwi : impl_within.f v 0 a1 = some true := by unfold impl_within.f; rw [if_pos hW.1, decide_eq_true hW.2]
          go_enter Tryd.func66, Tryd.ntmps66
          go_wp2_with (first | ((with_reducible refine gate_callee (f := 114) rfl ?_); refine goesL_ (some 10) rfl rfl Tryd.func114 (by kernel_rfl) rfl #[.string a0] rfl (by (try simp only [List.map_toArray, List.map_cons, List.map_nil]); first | done | rfl | (simp only [List.length_drop, List.length_take]; rfl)) ?_; refine (atoi_ok a0 hs v hA _).mono ?_; rintro e w1 ⟨rfl, hb⟩; refine ⟨_, rfl, ?_⟩; have n0_ := Aside0.mk (below_step (by repeat (first | (with_reducible first | exact HB.out | apply below_alloc | apply pw_below_drewN | apply below_drew1) | exact HB.out)) hb); clear HB; have HB := n0_; clear n0_; clear hb) | (go_at_call 98; refine (itoa_any v hv.1 hv.2 _ (hT.below (by repeat (first | (with_reducible first | exact HB.out | apply below_alloc | apply pw_below_drewN | apply below_drew1) | exact HB.out)))).mono ?_; rintro e w2 ⟨rfl, hb⟩; have n0_ := Aside0.mk (below_step (by repeat (first | (with_reducible first | exact HB.out | apply below_alloc | apply pw_below_drewN | apply below_drew1) | exact HB.out)) hb); clear HB; have HB := n0_; clear n0_; clear hb; rw [hI2]) | (go_at_call 95; (with_reducible refine (impl_within.calls v 0 a1 true _ hwi).mono ?_); rintro e w' ⟨rfl, ⟨nd, rfl⟩⟩))
          go_ret2
          exact ⟨by first | rfl | (simp; done) | (simp [*]; done), (by repeat (first | (with_reducible first | exact HB.out | apply below_alloc | apply pw_below_drewN | apply below_drew1) | exact HB.out))⟩
        · have h2 : num a0.data.toList a1 = (0, false) := by unfold num; rw [hA]; simp only; rw [if_neg (fun q => hW ⟨q.2.1, q.2.2⟩)]
          rw [h2] at h
          obtain ⟨rfl, rfl⟩ := Prod.mk.inj h
          have hwi : impl_within.f v 0 a1 = some false := by
            unfold impl_within.f
            by_cases h0 : 0 ≤ v
            · rw [if_pos h0, decide_eq_false (fun q => hW ⟨h0, q⟩)]
            · rw [if_neg h0]
          go_enter Tryd.func66, Tryd.ntmps66
          go_wp2_with (first | ((with_reducible refine gate_callee (f := 114) rfl ?_); refine goesL_ (some 10) rfl rfl Tryd.func114 (by kernel_rfl) rfl #[.string a0] rfl (by (try simp only [List.map_toArray, List.map_cons, List.map_nil]); first | done | rfl | (simp only [List.length_drop, List.length_take]; rfl)) ?_; refine (atoi_ok a0 hs v hA _).mono ?_; rintro e w1 ⟨rfl, hb⟩; refine ⟨_, rfl, ?_⟩; have n0_ := Aside0.mk (below_step (by repeat (first | (with_reducible first | exact HB.out | apply below_alloc | apply pw_below_drewN | apply below_drew1) | exact HB.out)) hb); clear HB; have HB := n0_; clear n0_; clear hb) | (go_at_call 98; refine (itoa_any v hv.1 hv.2 _ (hT.below (by repeat (first | (with_reducible first | exact HB.out | apply below_alloc | apply pw_below_drewN | apply below_drew1) | exact HB.out)))).mono ?_; rintro e w2 ⟨rfl, hb⟩; have n0_ := Aside0.mk (below_step (by repeat (first | (with_reducible first | exact HB.out | apply below_alloc | apply pw_below_drewN | apply below_drew1) | exact HB.out)) hb); clear HB; have HB := n0_; clear n0_; clear hb; rw [hI2]) | (go_at_call 95; (with_reducible refine (impl_within.calls v 0 a1 false _ hwi).mono ?_); rintro e w' ⟨rfl, ⟨nd, rfl⟩⟩))
          go_ret2
          exact ⟨by first | rfl | (simp; done) | (simp [*]; done), (by repeat (first | (with_reducible first | exact HB.out | apply below_alloc | apply pw_below_drewN | apply below_drew1) | exact HB.out))⟩
      · have h2 : num a0.data.toList a1 = (0, false) := by unfold num; rw [hA]; simp only; rw [if_neg (fun q => hI q.1)]
        rw [h2] at h
        obtain ⟨rfl, rfl⟩ := Prod.mk.inj h
        have hI3 : (Lib.itoa v == a0.toList) = false := beq_eq_false_iff_ne.mpr (by rw [ByteArray.toList_eq]; exact hI)
        have hI4 : (Lib.itoa v != a0.toList) = true := bne_iff_ne.mpr (by rw [ByteArray.toList_eq]; exact hI)
        have hI5 : ¬ (⟨(Lib.itoa v).toArray⟩ : ByteArray) = a0 := fun q => hI (by rw [← q])
        go_enter Tryd.func66, Tryd.ntmps66
        go_wp2_with (first | ((with_reducible refine gate_callee (f := 114) rfl ?_); refine goesL_ (some 10) rfl rfl Tryd.func114 (by kernel_rfl) rfl #[.string a0] rfl (by (try simp only [List.map_toArray, List.map_cons, List.map_nil]); first | done | rfl | (simp only [List.length_drop, List.length_take]; rfl)) ?_; refine (atoi_ok a0 hs v hA _).mono ?_; rintro e w1 ⟨rfl, hb⟩; refine ⟨_, rfl, ?_⟩; have n0_ := Aside0.mk (below_step (by repeat (first | (with_reducible first | exact HB.out | apply below_alloc | apply pw_below_drewN | apply below_drew1) | exact HB.out)) hb); clear HB; have HB := n0_; clear n0_; clear hb) | (go_at_call 98; refine (itoa_any v hv.1 hv.2 _ (hT.below (by repeat (first | (with_reducible first | exact HB.out | apply below_alloc | apply pw_below_drewN | apply below_drew1) | exact HB.out)))).mono ?_; rintro e w2 ⟨rfl, hb⟩; have n0_ := Aside0.mk (below_step (by repeat (first | (with_reducible first | exact HB.out | apply below_alloc | apply pw_below_drewN | apply below_drew1) | exact HB.out)) hb); clear HB; have HB := n0_; clear n0_; clear hb))
        go_ret2
        exact ⟨by first | rfl | (simp; done) | (simp [*]; done), (by repeat (first | (with_reducible first | exact HB.out | apply below_alloc | apply pw_below_drewN | apply below_drew1) | exact HB.out))⟩
    · have hA2 : ∀ v, Lib.atoiAll a0.data.toList ≠ .ok v := fun v hv => hA ⟨v, hv⟩
      have h2 : num a0.data.toList a1 = (0, false) := by
        unfold num
        split
        · next v hv => exact absurd hv (hA2 v)
        · rfl
      rw [h2] at h
      obtain ⟨rfl, rfl⟩ := Prod.mk.inj h
      go_enter Tryd.func66, Tryd.ntmps66
      go_wp2_with (first | ((with_reducible refine gate_callee (f := 114) rfl ?_); refine goesL_ (some 10) rfl rfl Tryd.func114 (by kernel_rfl) rfl #[.string a0] rfl (by (try simp only [List.map_toArray, List.map_cons, List.map_nil]); first | done | rfl | (simp only [List.length_drop, List.length_take]; rfl)) ?_; refine (atoi_bad a0 hs hA2 _ (hT.below (by repeat (first | (with_reducible first | exact HB.out | apply below_alloc | apply pw_below_drewN | apply below_drew1) | exact HB.out)))).mono ?_; rintro e w1 ⟨n, N, rfl, hb⟩; refine ⟨_, rfl, ?_⟩; have n0_ := Aside0.mk (below_step (by repeat (first | (with_reducible first | exact HB.out | apply below_alloc | apply pw_below_drewN | apply below_drew1) | exact HB.out)) hb); clear HB; have HB := n0_; clear n0_; clear hb))
      go_ret2
      exact ⟨by first | rfl | (simp; done) | (simp [*]; done), by repeat (first | (with_reducible first | exact HB.out | apply below_alloc | apply pw_below_drewN | apply below_drew1) | exact HB.out)⟩
  · cases h
end Go.Proofs.YtjeklcgflocfoaaDoor.P
