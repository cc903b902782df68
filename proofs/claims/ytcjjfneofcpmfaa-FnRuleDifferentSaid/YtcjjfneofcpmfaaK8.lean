/- The laws on drawn models: variables, solutions, counts. -/
import Derived.Test.YtcjjfneofcpmfaaK7
import Derived.Test.YtcjjfneofcpmfaaK6
namespace Go.L
open Go Go.E
set_option linter.unusedVariables false
set_option linter.unusedSimpArgs false
set_option maxRecDepth 100000

theorem small_s {m : Model} (h : sModel m) : smallM m := by
  obtain ⟨h1, h2, h3⟩ := h
  refine ⟨by unfold sInts at h1; omega, by omega, fun r hr => ?_⟩
  obtain ⟨k1, k2, k3, k4⟩ := h3 r hr
  unfold sInts at k1 k2
  exact ⟨by omega, by omega, by omega, fun x hx => by have := k4 x hx; unfold sInts at this; omega⟩
theorem bv_class (m : Model) (h : smallM m) (c v : Int) : i_BoolVar m c v = some 0 ∨ (okModel m = true ∧ ∃ k : Nat, c = (k : Int) ∧ ∃ hk : k < m.sizes.length, 0 ≤ v ∧ v ≤ m.sizes[k] ∧ i_BoolVar m c v = some (boolVar m k v)) := by
  unfold i_BoolVar
  rw [i_model m h, Option.bind_some]
  cases hok : okModel m with
  | false => exact .inl rfl
  | true =>
    obtain ⟨h1, h5, ha, _⟩ := okModel_parts hok
    rw [i64_id (n := (m.sizes.length : Int) - 1) (by omega) (by omega), within_eq]
    by_cases hc : 0 ≤ c ∧ c < (m.sizes.length : Int)
    · obtain ⟨k, rfl⟩ : ∃ k : Nat, c = (k : Int) := ⟨c.toNat, by omega⟩
      have hk : k < m.sizes.length := by omega
      have hb := sizes_get ha hk
      have e1 : (decide (0 ≤ (k : Int)) && decide ((k : Int) ≤ (m.sizes.length : Int) - 1)) = true := by simp; omega
      rw [e1, idx_lt hk]
      by_cases hv : 0 ≤ v ∧ v ≤ m.sizes[k]
      · refine .inr ⟨rfl, k, rfl, hk, hv.1, hv.2, ?_⟩
        have e3 : (decide (0 ≤ v) && decide (v ≤ m.sizes[k])) = true := by simp; omega
        simp only [within_eq, Option.bind_some, e3, i_var m k v (by omega) h5 ha (by omega)]
        rfl
      · left
        have e3 : (decide (0 ≤ v) && decide (v ≤ m.sizes[k])) = false := by simp; omega
        simp only [within_eq, Option.bind_some, e3]
        rfl
    · left
      have e1 : (decide (0 ≤ c) && decide (c ≤ (m.sizes.length : Int) - 1)) = false := by simp; omega
      simp only [e1]
      rfl
theorem gsum_mono {m : Model} (ha : m.sizes.all qSize = true) (c : Nat) : ∀ k, c + k ≤ m.sizes.length → gsum (m.sizes.take c) ≤ gsum (m.sizes.take (c + k))
  | 0, _ => Int.le_refl _
  | k + 1, hk => by
    have := gsum_mono ha c k (by omega)
    have hb := sizes_get ha (i := c + k) (by omega)
    have hg2 := gsum_next m.sizes (c + k) (by omega)
    rw [← Nat.add_assoc]
    omega
theorem bv_lt {m : Model} (ha : m.sizes.all qSize = true) {c d : Nat} (hcd : c < d) (hd : d < m.sizes.length) {v u : Int} (hv : v ≤ m.sizes[c]'(by omega)) (hu : 0 ≤ u) : boolVar m c v < boolVar m d u := by
  unfold boolVar
  have h1 := gsum_next m.sizes c (by omega)
  have h2 := gsum_mono ha (c + 1) (d - (c + 1)) (by omega)
  rw [show c + 1 + (d - (c + 1)) = d from by omega] at h2
  omega
theorem bv_inj {m : Model} (ha : m.sizes.all qSize = true) {c d : Nat} (hc : c < m.sizes.length) (hd : d < m.sizes.length) {v u : Int} (hv0 : 0 ≤ v) (hv : v ≤ m.sizes[c]) (hu0 : 0 ≤ u) (hu : u ≤ m.sizes[d]) (h : boolVar m c v = boolVar m d u) : c = d ∧ v = u := by
  rcases Nat.lt_trichotomy c d with hlt | heq | hgt
  · have := bv_lt ha hlt hd hv hu0; omega
  · subst heq; unfold boolVar at h; exact ⟨rfl, by omega⟩
  · have := bv_lt ha hgt hc hu hv0; omega
theorem FnBoolVar_ok (code more : List UInt8) (g0 : code.length ≤ 9223372036854775807 ∧ ∀ x ∈ code, True) (g1 : more.length ≤ 9223372036854775807 ∧ ∀ x ∈ more, True) : ∃ fu, l_FnBoolVar fu code more = some true := by
  refine ⟨FU, ?_⟩
  unfold l_FnBoolVar
  split
  · rfl
  refine anyB_intro (drawBoolVar_ok code FU (Nat.le_refl _)) (o0 := (⟨[], []⟩, 0, 0)) s0 fun x hx => ?_
  refine anyB_intro (drawBoolVar_ok more FU (Nat.le_refl _)) (o0 := (⟨[], []⟩, 0, 0)) s0 fun y hy => ?_
  obtain ⟨m, c, v⟩ := x
  obtain ⟨_, d, u⟩ := y
  simp only at hx ⊢
  have hs := small_s hx
  obtain ⟨r, h1, h2⟩ := bool_var m hs FU (Nat.le_refl _) c v
  obtain ⟨r', _, h3⟩ := bool_var m hs FU (Nat.le_refl _) d u
  rw [h2, h3, h1]
  simp only [Option.bind_some]
  split
  · simp
  · rename_i hne
    have hr : r ≠ 0 ∧ r' ≠ 0 := by simpa using hne
    rcases bv_class m hs c v with h4 | ⟨hok, k, rfl, hk, hv0, hv, h4⟩
    · rw [h2] at h4; injection h4 with h4; exact absurd h4 hr.1
    rcases bv_class m hs d u with h5 | ⟨_, l, rfl, hl, hu0, hu, h5⟩
    · rw [h3] at h5; injection h5 with h5; exact absurd h5 hr.2
    rw [h2] at h4; injection h4 with h4
    rw [h3] at h5; injection h5 with h5
    subst h4 h5
    obtain ⟨_, h5', ha, _, hg, _⟩ := okModel_parts hok
    have b1 := boolVar_range hok hk ⟨hv0, hv⟩
    have gb := gsum_bound _ ha
    have e1 : (boolVar m k v == boolVar m l u) = (((k : Int) == (l : Int)) && (v == u)) := by
      rw [Bool.eq_iff_iff]
      simp only [beq_iff_eq, Bool.and_eq_true]
      constructor
      · intro h; have := bv_inj ha hk hl hv0 hv hu0 hu h; omega
      · rintro ⟨h1, h2⟩
        obtain rfl : k = l := by omega
        rw [h2]
    have e2 : ((boolVar m k v == boolVar m l u) == (((k : Int) == (l : Int)) && (v == u))) = true := by rw [e1]; simp
    rw [e2, i_free m hs]
    have e3 : freeVars m = 12 - gsum m.sizes := by unfold freeVars; rw [hok]; rfl
    rw [e3]
    have e4 : i64 (12 - (12 - gsum m.sizes)) = gsum m.sizes := by rw [i64_id (by omega) (by omega)]; omega
    simp only [Option.bind_some, e4]
    rw [Bool.true_and]
    have e5 : decide (boolVar m k v ≥ 1) = true := by simp; omega
    have e6 : decide (boolVar m k v ≤ gsum m.sizes) = true := by simp; omega
    rw [e5]
    simp only [if_true, Option.bind_some, e6]
theorem all_take {α : Type} (q : α → Bool) (xs : List α) (i : Nat) (x : α) (hx : xs[i]? = some x) : (xs.take (i + 1)).all q = ((xs.take i).all q && q x) := by
  rw [List.take_add_one, hx, List.all_append]
  simp
theorem FnSolvesModel_ok (code : List UInt8) (g0 : code.length ≤ 9223372036854775807 ∧ ∀ x ∈ code, True) : ∃ fu, l_FnSolvesModel fu code = some true := by
  refine ⟨FU, ?_⟩
  unfold l_FnSolvesModel
  split
  · rfl
  refine anyB_intro (drawSolves_ok code FU (Nat.le_refl _)) (o0 := (⟨[], []⟩, [])) ⟨s0, by simp [sOut]⟩ fun x hx => ?_
  obtain ⟨m, cells⟩ := x
  simp only at hx ⊢
  have hs := small_s hx.1
  rw [i_solvesM m hs, s_solvesM m hs FU (Nat.le_refl _), i_cells m hs, s_cells m hs FU (Nat.le_refl _)]
  simp only [Option.bind_some]
  cases hc : okCells m cells with
  | false => simp
  | true =>
    simp only [bne_self_eq_false, Bool.not_true, Bool.false_eq_true, if_false, Option.bind_some]
    have hr := range_to (b := l_FnSolvesModel_b1 (m, cells)) (fun i => (m.rules.take i).all fun r => ruleHolds r (valsOf r cells)) m.rules (by
      intro i r hr
      have hi := (List.getElem?_eq_some_iff.1 hr).1
      unfold l_FnSolvesModel_b1
      simp only
      rw [i_ruleHolds m hs, all_take _ _ _ _ hr]
      have hh : holdsAt m (i : Int) cells = ruleHolds r (valsOf r cells) := by
        unfold holdsAt
        rw [hc, Int.toNat_natCast, hr]
        simp
        omega
      rw [hh]
      cases (m.rules.take i).all (fun r => ruleHolds r (valsOf r cells)) <;> rfl)
    simp only [List.take_zero, List.all_nil, List.take_length] at hr
    rw [hr]
    simp [solvesM, solves, hc]
end Go.L
