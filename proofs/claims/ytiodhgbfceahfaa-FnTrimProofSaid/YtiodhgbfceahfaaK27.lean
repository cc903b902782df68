/- Values as assignments; negation; reverse unit propagation is sound and monotonic. -/
import Derived.Test.YtiodhgbfceahfaaK26
namespace Go.L
open Go Go.E
set_option linter.unusedVariables false
set_option linter.unusedSimpArgs false
set_option maxRecDepth 100000
def trueL (v : List Bool) (l : Int) : Bool := if l > 0 then v.getD (l - 1).toNat false else !(v.getD (-l - 1).toNat false)
def sumV (v : List Bool) (ts : List Term) : Int := sumR (fun t => if trueL v t.lit then t.coef else 0) ts
def evalC (c : Con) (v : List Bool) : Bool := decide (sumV v c.terms ≥ c.bound)
/-! negation -/
def negC (c : Con) : Con := ⟨c.terms.map fun t => ⟨t.coef, -t.lit⟩, max 0 (tot c - c.bound + 1)⟩
theorem absI_neg (n : Int) : absI (-n) = absI n := by unfold absI; omega
theorem okT_neg {t : Term} (h : okT t = true) : okT ⟨t.coef, -t.lit⟩ = true := by
  obtain ⟨h0, h1, h2, h3, h4⟩ := okT_lit h
  unfold okT
  simp
  omega
theorem okTerms_neg : ∀ (ts : List Term) (b : Int), okTerms b ts = true → okTerms b (ts.map fun t => ⟨t.coef, -t.lit⟩) = true
  | [], _, _ => rfl
  | t :: ts, b, h => by
    rw [okTerms, Bool.and_eq_true, Bool.and_eq_true] at h
    rw [List.map_cons, okTerms, Bool.and_eq_true, Bool.and_eq_true]
    refine ⟨⟨okT_neg h.1.1, ?_⟩, ?_⟩
    · rw [absI_neg]; exact h.1.2
    · rw [absI_neg]; exact okTerms_neg ts _ h.2
theorem okCon_tot {c : Con} (h : okCon c = true) : 0 ≤ tot c ∧ tot c ≤ 12000 := by
  obtain ⟨_, h2, h3, _, _⟩ := okCon_parts h
  have := totT_bound c.terms h3
  unfold tot
  omega
theorem negC_ok {c : Con} (h : okCon c = true) : okCon (negC c) = true := by
  have ht := okCon_tot h
  obtain ⟨h1, _, _, h4, h5⟩ := okCon_parts h
  unfold okCon okB negC
  simp only [okTerms_neg _ _ h1]
  simp
  omega
/-! reverse unit propagation -/
def zeroP : List Int := List.replicate 12 0
theorem zeroP_ok : okP zeroP := by
  refine ⟨rfl, fun x hx => ?_⟩
  rw [List.eq_of_mem_replicate hx]; omega
theorem zeroP_le (q : List Int) : LeP zeroP q := fun k hk hn => by
  exfalso
  apply hn
  unfold zeroP
  rw [List.getD_eq_getElem?_getD, List.getElem?_replicate_of_lt hk]
  rfl
def rupB (list : List Con) (c : Con) : Bool := decide (0 ≤ (prop 13 (list ++ [negC c]) zeroP).2)
theorem rup_closed {list : List Con} {c : Con} {q : List Int} (hq : okP q) (h : ∀ x ∈ list ++ [negC c], okCon x = true ∧ Closed q x) : rupB list c = false := by
  obtain ⟨p', e, _⟩ := prop_closed hq h 13 zeroP zeroP_ok (zeroP_le q)
  unfold rupB
  rw [e]
  rfl
theorem rup_mono {list list' : List Con} {c : Con} (hl : ∀ x ∈ list', okCon x = true) (hc : okCon c = true) (hs : ∀ x ∈ list, x ∈ list') (h : rupB list c = true) : rupB list' c = true := by
  cases he : rupB list' c with
  | true => rfl
  | false =>
    exfalso
    unfold rupB at he
    have hok : ∀ x ∈ list' ++ [negC c], okCon x = true := fun x hx => by
      rcases List.mem_append.1 hx with hx | hx
      · exact hl x hx
      · rw [List.mem_singleton] at hx; subst hx; exact negC_ok hc
    generalize hr : prop 13 (list' ++ [negC c]) zeroP = r at he
    obtain ⟨p', a⟩ := r
    have ha : a = -1 := by
      have key : ∀ n cs p p' a, prop n cs p = (p', a) → a = -1 ∨ 0 ≤ a := by
        intro n
        induction n with
        | zero => intro cs p p' a h; rw [prop] at h; simp at h; exact .inl h.2.symm
        | succ n ih =>
          intro cs p p' a h
          rw [prop] at h
          split at h
          · simp at h; omega
          · split at h
            · exact ih _ _ _ _ h
            · simp at h; exact .inl h.2.symm
      have := key _ _ _ _ _ hr
      simp at he
      omega
    subst ha
    obtain ⟨g1, g2⟩ := prop_fix hok 13 zeroP zeroP_ok (by decide) p' hr
    have := rup_closed (list := list) (c := c) g1 fun x hx => by
      have hm : x ∈ list' ++ [negC c] := by
        rcases List.mem_append.1 hx with hx | hx
        · exact List.mem_append.2 (.inl (hs x hx))
        · exact List.mem_append.2 (.inr hx)
      exact ⟨hok x hm, g2 x hm⟩
    rw [this] at h
    cases h
end Go.L
