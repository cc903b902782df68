/- The law on counting: the solutions of a model are those in which a cell has each of its values. -/
import Derived.Test.YtcjjfneofcpmfaaK8
namespace Go.L
open Go Go.E
set_option linter.unusedVariables false
set_option linter.unusedSimpArgs false
set_option maxRecDepth 100000

theorem countP_split {α : Type} (p q r : α → Bool) : ∀ l : List α, (∀ x ∈ l, r x = (p x || q x) ∧ (p x && q x) = false) → l.countP r = l.countP p + l.countP q
  | [], _ => by simp
  | x :: l, h => by
    have ih := countP_split p q r l fun y hy => h y (List.mem_cons_of_mem _ hy)
    obtain ⟨h1, h2⟩ := h x (by simp)
    rw [List.countP_cons, List.countP_cons, List.countP_cons, ih, h1]
    cases hp : p x <;> cases hq : q x <;> simp [hp, hq] at h2 ⊢ <;> omega
theorem enum_fit : ∀ (k : Nat) {ss cs : List Int}, rem ss cs = k → fit ss cs → ∀ c ∈ enumC ss cs, fit ss c := by
  intro k
  induction k with
  | zero =>
    intro ss cs hr hf c hc
    cases hn : nextC ss cs with
    | none => rw [enum_none hf hn] at hc; simp at hc; subst hc; exact hf
    | some t => have := (next_some hf hn).2; omega
  | succ k ih =>
    intro ss cs hr hf c hc
    cases hn : nextC ss cs with
    | none => have := next_none hf hn; omega
    | some t =>
      obtain ⟨ht, hrt⟩ := next_some hf hn
      rw [enum_some hf hn] at hc
      rcases List.mem_cons.1 hc with rfl | h
      · exact hf
      · exact ih (by omega) ht c h
def tabR (v k : Int) : Rule := { kind := 3, vars := [v], coefs := [], bound := 0, rows := [[k]] }
theorem okRule_tab {n : Nat} {v k : Int} (h0 : 0 ≤ v) (h1 : v < n) (k0 : 0 ≤ k) (k1 : k ≤ 3) : okRule n (tabR v k) = true := by
  have e : okVars n [v] = true := by
    unfold okVars allFrom allFrom gqVars
    simp; omega
  unfold okRule tabR
  simp only [e]
  simp [qRow, k0, k1]
theorem okModel_more {m : Model} (h : okModel m = true) (hl : m.rules.length < 8) {v k : Int} (h0 : 0 ≤ v) (h1 : v < m.sizes.length) (k0 : 0 ≤ k) (k1 : k ≤ 3) : okModel ⟨m.sizes, m.rules ++ [tabR v k]⟩ = true := by
  obtain ⟨p1, p5, ha, hr, hg, hall⟩ := okModel_parts h
  unfold okModel
  rw [if_neg (by simp; omega)]
  simp only
  rw [ha, Bool.true_and, List.all_append, hall]
  simp [okRule_tab h0 h1 k0 k1]
theorem solves_more (m : Model) (v k : Int) (cs : List Int) : solves ⟨m.sizes, m.rules ++ [tabR v k]⟩ cs = (solves m cs && (cs.getD v.toNat 0 == k)) := by
  unfold solves
  rw [List.all_append]
  congr 1
  simp [tabR, ruleHolds, valsOf, Bool.beq_comm]
theorem FnCountModel_ok (code more : List UInt8) (g0 : code.length ≤ 9223372036854775807 ∧ ∀ x ∈ code, True) (g1 : more.length ≤ 9223372036854775807 ∧ ∀ x ∈ more, True) : ∃ fu, l_FnCountModel fu code more = some true := by
  refine ⟨FU, ?_⟩
  unfold l_FnCountModel
  split
  · rfl
  refine anyB_intro (drawCount_ok code FU (Nat.le_refl _)) (o0 := ⟨[], []⟩) s0 fun m hm => ?_
  have hs := small_s hm
  rw [i_count m hs FU (Nat.le_refl _), s_count m hs FU (Nat.le_refl _), i_model m hs]
  simp only [Option.bind_some]
  cases hok : okModel m with
  | false => simp
  | true =>
    obtain ⟨h1, h5, ha, hr, hg, hall⟩ := okModel_parts hok
    simp only [bne_self_eq_false, Bool.not_true, Bool.false_eq_true, if_false, Option.bind_some, Bool.false_or]
    by_cases h8 : m.rules.length = 8
    · rw [if_pos (by simp [h8])]; simp
    rw [if_neg (by simp; omega), if_neg (by omega), Option.bind_some]
    obtain ⟨v, hv, hvl⟩ : ∃ v : Nat, Int.tmod (more.length : Int) (m.sizes.length : Int) = (v : Int) ∧ v < m.sizes.length := by
      have a0 : 0 ≤ Int.tmod (more.length : Int) (m.sizes.length : Int) := Int.tmod_nonneg _ (by omega)
      have a1 : Int.tmod (more.length : Int) (m.sizes.length : Int) < (m.sizes.length : Int) := Int.tmod_lt_of_pos _ (by omega)
      exact ⟨(Int.tmod (more.length : Int) (m.sizes.length : Int)).toNat, by omega, by omega⟩
    have hb := sizes_get ha hvl
    rw [hv, idx_lt hvl, Option.bind_some]
    have hk : cntF 0 (m.sizes[v] + 1) = some (m.sizes[v].toNat + 1) := by rw [cntF_of (by omega) (by omega)]; congr 1; omega
    rw [hk, Option.bind_some]
    have hz := okModel_zeros hok
    let E := enumC m.sizes (zeros m)
    have hE : ∀ c ∈ E, fit m.sizes c := enum_fit _ rfl hz
    let F : Nat → Nat := fun j => E.countP fun c => solves m c && decide (c.getD v 0 < (j : Int))
    have hF : ∀ j, F j ≤ 1024 := by
      intro j
      have b1 : F j ≤ E.length := List.countP_le_length
      have b2 := enum_len _ rfl hz
      have b3 := rem_small hz ha h5
      show F j ≤ 1024
      have b4 : E.length = rem m.sizes (zeros m) + 1 := b2
      omega
    have hstep : ∀ j : Nat, (j : Int) ≤ 3 → F (j + 1) = F j + countModel ⟨m.sizes, m.rules ++ [tabR v j]⟩ := by
      intro j hj
      have e := okModel_more hok (by omega) (v := (v : Int)) (k := (j : Int)) (by omega) (by omega) (by omega) hj
      unfold countModel
      rw [if_pos e]
      refine countP_split _ _ _ E fun c hc => ?_
      rw [solves_more, Int.toNat_natCast]
      cases solves m c with
      | false => simp
      | true =>
        simp only [Bool.true_and]
        refine ⟨?_, ?_⟩
        · rw [Bool.eq_iff_iff]; simp; omega
        · rw [Bool.eq_false_iff]; simp; omega
    have hl := count_to (b := l_FnCountModel_b1 FU more m) (fun j => (F j : Int)) (m.sizes[v].toNat + 1) 0 (by
      intro j _ hj
      have hs2 : smallM ⟨m.sizes, m.rules ++ [tabR v j]⟩ := ⟨hs.1, by simp; omega, fun r hr => by
        rcases List.mem_append.1 hr with h | h
        · exact hs.2.2 r h
        · simp at h; subst h; exact ⟨by simp [tabR], by simp [tabR], by simp [tabR], by simp [tabR]⟩⟩
      show (app [] m.rules).bind _ = _
      rw [app_le (by simp; omega), List.nil_append, Option.bind_some, hv, app_le (by simp; omega), Option.bind_some]
      show (i_CountModel FU ⟨m.sizes, m.rules ++ [tabR v j]⟩).bind _ = _
      have e1 := hF j
      have e2 := hF (j + 1)
      have e3 := hstep j (by omega)
      rw [i_count _ hs2 FU (Nat.le_refl _), Option.bind_some, i64_id (by omega) (by omega), e3]
      simp)
    have f0 : F 0 = 0 := by
      show E.countP _ = 0
      rw [List.countP_eq_zero]
      intro c hc
      have hf := hE c hc
      have := fit_get hf (i := v) (by rw [fit_len hf]; exact hvl)
      rw [getD_lt (by rw [fit_len hf]; exact hvl)]
      simp; omega
    have f1 : F (m.sizes[v].toNat + 1) = countModel m := by
      unfold countModel
      rw [if_pos hok]
      refine List.countP_congr fun c hc => ?_
      have hf := hE c hc
      have := fit_get hf (i := v) (by rw [fit_len hf]; exact hvl)
      rw [getD_lt (by rw [fit_len hf]; exact hvl)]
      simp; omega
    simp only [f0, Nat.zero_add, f1] at hl
    have hl' : countL (l_FnCountModel_b1 FU more m) (m.sizes[v].toNat + 1) 0 0 = some (.nx (countModel m : Int)) := hl
    rw [hl']
    simp
end Go.L
