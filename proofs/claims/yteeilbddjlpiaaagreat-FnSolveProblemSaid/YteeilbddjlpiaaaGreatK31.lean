/- Rules: what both sides compute, plainly; each is valid and sound. -/
import Derived.Test.YteeilbddjlpiaaaGreatK29
namespace Go.L
open Go Go.E
set_option linter.unusedVariables false
set_option linter.unusedSimpArgs false
set_option maxRecDepth 100000
def zeroC : Con := ⟨[], 0⟩
theorem rules_congr {b b' : Int} : ∀ (ts : List Term), b' ≤ b → okTerms b ts = true → okTerms b' ts = true
  | [], _, _ => rfl
  | t :: ts, hb, h => by
    rw [okTerms, Bool.and_eq_true, Bool.and_eq_true] at h
    rw [okTerms, Bool.and_eq_true, Bool.and_eq_true]
    have := of_decide_eq_true h.1.2
    exact ⟨⟨h.1.1, decide_eq_true (by omega)⟩, h.2⟩
theorem okTerms_gt : ∀ (ts : List Term) (b : Int), okTerms b ts = true → ∀ t ∈ ts, b < absI t.lit
  | [], _, _, t, ht => by cases ht
  | u :: ts, b, h, t, ht => by
    rw [okTerms, Bool.and_eq_true, Bool.and_eq_true] at h
    have h2 := of_decide_eq_true h.1.2
    rcases List.mem_cons.1 ht with rfl | ht
    · exact h2
    · have := okTerms_gt ts _ h.2 t ht; omega
theorem okTerms_filter (q : Term → Bool) : ∀ (ts : List Term) (b : Int), okTerms b ts = true → okTerms b (ts.filter q) = true
  | [], _, _ => rfl
  | t :: ts, b, h => by
    rw [okTerms, Bool.and_eq_true, Bool.and_eq_true] at h
    have h2 := of_decide_eq_true h.1.2
    rw [List.filter_cons]
    split
    · rw [okTerms, Bool.and_eq_true, Bool.and_eq_true]
      exact ⟨h.1, okTerms_filter q ts _ h.2⟩
    · exact rules_congr _ (by omega) (okTerms_filter q ts _ h.2)
theorem okTerms_map (f : Term → Term) : ∀ (ts : List Term) (b : Int), okTerms b ts = true → (∀ t ∈ ts, okT t = true → okT (f t) = true ∧ (f t).lit = t.lit) → okTerms b (ts.map f) = true
  | [], _, _, _ => rfl
  | t :: ts, b, h, hf => by
    rw [okTerms, Bool.and_eq_true, Bool.and_eq_true] at h
    have := hf t (by simp) h.1.1
    rw [List.map_cons, okTerms, Bool.and_eq_true, Bool.and_eq_true, this.2]
    exact ⟨⟨this.1, h.1.2⟩, okTerms_map f ts _ h.2 fun u hu => hf u (by simp [hu])⟩
theorem sumV_map_ge (v : List Bool) {f : Term → Term} : ∀ (ts : List Term), (∀ t ∈ ts, (f t).lit = t.lit) → sumV v (ts.map f) = sumR (fun t => if trueL v t.lit then (f t).coef else 0) ts
  | [], _ => rfl
  | t :: ts, h => by
    have := sumV_map_ge v ts fun u hu => h u (by simp [hu])
    unfold sumV at *
    simp only [List.map_cons, sumR]
    rw [this, h t (by simp)]
theorem evalC_iff {c : Con} {v : List Bool} : evalC c v = true ↔ c.bound ≤ sumV v c.terms := by unfold evalC; simp
/-! a literal -/
def litB (l : Int) : Bool := l != 0 && (decide (-12 ≤ l) && decide (l ≤ 12))
def litC (l : Int) : Con × Bool := if litB l then (⟨[⟨1, l⟩], 0⟩, true) else (zeroC, false)
theorem litB_iff {l : Int} : litB l = true ↔ lit12 l := by unfold litB lit12; simp
theorem i_lit (l : Int) : i_LiteralAxiom l = some (litC l) := by
  unfold i_LiteralAxiom i_isLiteral i_within litC litB
  cases h0 : l != 0 with
  | false => rfl
  | true => cases h : (decide (-12 ≤ l) && decide (l ≤ 12)) <;> simp [h] <;> rfl
theorem litC_ok {l : Int} {c : Con} (h : litC l = (c, true)) : okCon c = true ∧ ∀ v, evalC c v = true := by
  unfold litC at h
  split at h
  · rename_i hl
    rw [litB_iff] at hl
    obtain ⟨h0, h1, h2⟩ := hl
    cases h
    constructor
    · have hp : 0 < absI l := by unfold absI; omega
      show ((okT ⟨1, l⟩ && decide (0 < absI l)) && true && (decide ((0 : Int) ≤ 0) && decide ((0 : Int) ≤ 20000))) = true
      have ht : okT ⟨1, l⟩ = true := by unfold okT; simp; exact ⟨⟨h0, h1⟩, h2⟩
      simp [ht, hp]
    · intro v
      unfold evalC sumV
      simp only [sumR]
      split <;> simp
  · cases h
/-! weakening -/
def isV (x : Int) (t : Term) : Bool := absI t.lit == x
def wS (x : Int) (ts : List Term) : Int := sumR (fun t => if isV x t then t.coef else 0) ts
def weakC (c : Con) (x : Int) : Con × Bool :=
  if okCon c && (decide (1 ≤ x) && decide (x ≤ 12)) then (⟨c.terms.filter (fun t => !isV x t), max 0 (c.bound - wS x c.terms)⟩, true) else (zeroC, false)
theorem sumR_snoc (f : Term → Int) (ts : List Term) (t : Term) : sumR f (ts ++ [t]) = sumR f ts + f t := by
  induction ts with
  | nil => simp [sumR]
  | cons u ts ih => rw [List.cons_append, sumR, ih, sumR]; omega
theorem sumR_bound {f : Term → Int} : ∀ (ts : List Term), (∀ t ∈ ts, 0 ≤ f t ∧ f t ≤ 1000) → 0 ≤ sumR f ts ∧ sumR f ts ≤ 1000 * ts.length
  | [], _ => by simp [sumR]
  | t :: ts, h => by
    have h1 := h t (by simp)
    have := sumR_bound (f := f) ts fun u hu => h u (by simp [hu])
    simp only [sumR, List.length_cons]; omega
theorem wS_bound (x : Int) (ts : List Term) (h : ∀ t ∈ ts, okT t = true) : 0 ≤ wS x ts ∧ wS x ts ≤ 1000 * ts.length :=
  sumR_bound ts fun t ht => by
    have := okT_lit (h t ht)
    show 0 ≤ (if isV x t then t.coef else 0) ∧ (if isV x t then t.coef else 0) ≤ 1000
    split <;> omega
theorem wS_snoc (x : Int) (ts : List Term) (t : Term) : wS x (ts ++ [t]) = wS x ts + (if isV x t then t.coef else 0) := sumR_snoc _ _ _
theorem take_snoc {α : Type} {xs : List α} {i : Nat} {x : α} (h : xs[i]? = some x) : xs.take (i + 1) = xs.take i ++ [x] := by rw [List.take_add_one, h]; rfl
theorem okTerms_before : ∀ (ts : List Term) (b : Int), okTerms b ts = true → ∀ (i : Nat) (t : Term), ts[i]? = some t → ∀ u ∈ ts.take i, absI u.lit < absI t.lit
  | [], _, _, i, t, ht, _, _ => by simp at ht
  | y :: ts, b, h, 0, t, ht, u, hu => by simp at hu
  | y :: ts, b, h, i + 1, t, ht, u, hu => by
    rw [okTerms, Bool.and_eq_true, Bool.and_eq_true] at h
    rw [List.take_succ_cons] at hu
    have ht : ts[i]? = some t := by simpa using ht
    rcases List.mem_cons.1 hu with rfl | hu
    · exact okTerms_gt ts _ h.2 t (List.mem_of_getElem? ht)
    · exact okTerms_before ts _ h.2 i t ht u hu
theorem sumR_zero {f : Term → Int} : ∀ (ts : List Term), (∀ t ∈ ts, f t = 0) → sumR f ts = 0
  | [], _ => rfl
  | t :: ts, h => by rw [sumR, h t (by simp), sumR_zero ts fun u hu => h u (by simp [hu])]; rfl
theorem i_weak (c : Con) (x : Int) : i_WeakenConstraint c x = some (weakC c x) := by
  unfold i_WeakenConstraint weakC i_within
  rw [i_valid c, Option.bind_some]
  cases hc : okCon c with
  | false => rfl
  | true =>
    by_cases hx : 1 ≤ x ∧ x ≤ 12
    · have e' : (true && (decide (1 ≤ x) && decide (x ≤ 12))) = true := by simp [hx]
      have e'' : (decide (1 ≤ x) && decide (x ≤ 12)) = true := by simp [hx]
      simp only [e'', Bool.not_true, Bool.false_eq_true, if_false, Option.bind_some, Bool.and_self, if_true]
      obtain ⟨h1, h2, h3, h4, h5⟩ := okCon_parts hc
      have := range_to (b := i_WeakenConstraint_b1 c x) (fun i => ((c.terms.take i).filter (fun t => !isV x t), max 0 (c.bound - wS x (c.terms.take i)))) c.terms (by
        intro i t ht
        have hk := h3 t (List.mem_of_getElem? ht)
        obtain ⟨q0, q1, q2, q3, q4⟩ := okT_lit hk
        have hi := (List.getElem?_eq_some_iff.1 ht).1
        have hl : (c.terms.take i).length ≤ 12 := by simp; omega
        have hfl := List.length_filter_le (fun t : Term => !isV x t) (c.terms.take i)
        rw [i_WeakenConstraint_b1, i_variableOf, i64_id (n := -t.lit) (by omega) (by omega), Option.bind_some, take_snoc ht, List.filter_append, wS_snoc]
        show ((if (isV x t) then _ else _ : Option (List Term × Int)).bind _) = _
        cases he : isV x t with
        | true =>
          have hz : wS x (c.terms.take i) = 0 := sumR_zero _ fun u hu => by
            have := okTerms_before c.terms 0 h1 i t ht u hu
            have he : absI t.lit = x := eq_of_beq he
            have : isV x u = false := by unfold isV; simp; omega
            simp [this]
          rw [i64_id (by omega) (by omega), hz]
          simp [he]
        | false =>
          rw [app_le (by simp; omega)]
          simp [he])
      have e0 : (([] : List Term), c.bound) = ((c.terms.take 0).filter (fun t => !isV x t), max 0 (c.bound - wS x (c.terms.take 0))) := by simp [wS, sumR]; omega
      rw [e0, this]
      simp only [Option.bind_some, List.take_length]
    · have e'' : (decide (1 ≤ x) && decide (x ≤ 12)) = false := by simp; omega
      simp only [e'', Bool.and_false]
      rfl
theorem weakC_ok {c d : Con} {x : Int} (h : weakC c x = (d, true)) : okCon d = true ∧ ∀ v, evalC c v = true → evalC d v = true := by
  unfold weakC at h
  split at h
  · rename_i hc
    rw [Bool.and_eq_true] at hc
    obtain ⟨h1, h2, h3, h4, h5⟩ := okCon_parts hc.1
    simp only [Prod.mk.injEq, and_true] at h
    have hb := wS_bound x c.terms h3
    subst h
    constructor
    · unfold okCon okB
      simp only [okTerms_filter _ _ _ h1]
      simp
      omega
    · intro v hv
      unfold evalC at *
      simp at hv ⊢
      have key : ∀ ts : List Term, (∀ t ∈ ts, okT t = true) → sumV v ts ≤ sumV v (ts.filter fun t => !isV x t) + wS x ts ∧ 0 ≤ sumV v (ts.filter fun t => !isV x t) := by
        intro ts
        induction ts with
        | nil => intro _; simp [sumV, wS, sumR]
        | cons t ts ih =>
          intro h
          have := ih fun u hu => h u (by simp [hu])
          obtain ⟨_, _, _, q3, q4⟩ := okT_lit (h t (by simp))
          rw [List.filter_cons]
          unfold sumV wS at *
          cases he : isV x t <;> simp only [he, Bool.not_false, Bool.not_true, sumR, if_true, Bool.false_eq_true, if_false] <;> cases trueL v t.lit <;> simp <;> omega
      have := key c.terms h3
      omega
  · cases h
/-! saturation -/
def satC (c : Con) : Con × Bool := if okCon c then (⟨if c.bound > 0 then c.terms.map (fun t => ⟨min t.coef c.bound, t.lit⟩) else [], c.bound⟩, true) else (zeroC, false)
theorem i_saturate (c : Con) : i_SaturateConstraint c = some (satC c) := by
  unfold i_SaturateConstraint satC
  rw [i_valid c, Option.bind_some]
  cases hc : okCon c with
  | false => rfl
  | true =>
    obtain ⟨h1, h2, h3, h4, h5⟩ := okCon_parts hc
    by_cases hb : c.bound > 0
    · have := range_map (b := i_SaturateConstraint_b1 c) (fun t => (⟨min t.coef c.bound, t.lit⟩ : Term)) c.terms fun i t out ht hlen => by
        have hi := (List.getElem?_eq_some_iff.1 ht).1
        rw [i_SaturateConstraint_b1, app_le (by simp; omega)]
        rfl
      simp [hb, this]
    · simp [hb]
theorem satC_ok {c d : Con} (h : satC c = (d, true)) : okCon d = true ∧ ∀ v, evalC c v = true → evalC d v = true := by
  unfold satC at h
  split at h
  · rename_i hc
    obtain ⟨h1, h2, h3, h4, h5⟩ := okCon_parts hc
    simp only [Prod.mk.injEq, and_true] at h
    subst h
    by_cases hb : c.bound > 0
    · rw [if_pos hb]
      constructor
      · have := okTerms_map (fun t => (⟨min t.coef c.bound, t.lit⟩ : Term)) c.terms 0 h1 fun t ht hk => by
          obtain ⟨q0, q1, q2, q3, q4⟩ := okT_lit hk
          refine ⟨?_, rfl⟩
          unfold okT
          simp
          omega
        unfold okCon okB
        simp only [this]
        simp
        omega
      · intro v hv
        rw [evalC_iff] at hv ⊢
        show c.bound ≤ sumV v (c.terms.map fun t => ⟨min t.coef c.bound, t.lit⟩)
        rw [sumV_map_ge v (f := fun t => ⟨min t.coef c.bound, t.lit⟩) c.terms fun _ _ => rfl]
        have key : ∀ ts : List Term, (∀ t ∈ ts, okT t = true) → (0 ≤ sumR (fun t => if trueL v t.lit then min t.coef c.bound else 0) ts) ∧ (sumR (fun t => if trueL v t.lit then min t.coef c.bound else 0) ts = sumV v ts ∨ c.bound ≤ sumR (fun t => if trueL v t.lit then min t.coef c.bound else 0) ts) := by
          intro ts
          induction ts with
          | nil => intro _; exact ⟨by simp [sumR], .inl rfl⟩
          | cons t ts ih =>
            intro h
            have := ih fun u hu => h u (by simp [hu])
            obtain ⟨_, _, _, q3, q4⟩ := okT_lit (h t (by simp))
            unfold sumV at *
            simp only [sumR]
            cases trueL v t.lit <;> simp only [Bool.false_eq_true, if_false, if_true] <;> omega
        have := key c.terms h3
        simp only at this ⊢
        omega
    · rw [if_neg hb]
      constructor
      · unfold okCon okB
        simp [okTerms]
        omega
      · intro v hv
        unfold evalC at *
        simp [sumV, sumR]
        omega
  · cases h
/-! multiplication, division -/
def scaleC (f : Int → Int) (c : Con) : Con := ⟨c.terms.map (fun t => ⟨f t.coef, t.lit⟩), f c.bound⟩
def validC (c : Con) : Con × Bool := if okCon c then (c, true) else (zeroC, false)
def okK (k : Int) : Bool := decide (1 ≤ k) && decide (k ≤ 1000)
def mulC (c : Con) (k : Int) : Con × Bool := if okCon c && okK k then validC (scaleC (· * k) c) else (zeroC, false)
def upI (k n : Int) : Int := Int.tdiv (n + k - 1) k
def divC (c : Con) (k : Int) : Con × Bool := if okCon c && okK k then (scaleC (upI k) c, true) else (zeroC, false)
theorem okK_iff {k : Int} : okK k = true ↔ 1 ≤ k ∧ k ≤ 1000 := by unfold okK; simp
theorem mul_bound {n k B : Int} (h0 : 0 ≤ n) (h1 : n ≤ B) (k0 : 1 ≤ k) (k1 : k ≤ 1000) (hB : 0 ≤ B) : 0 ≤ n * k ∧ n * k ≤ B * 1000 :=
  ⟨Int.mul_nonneg h0 (by omega), Int.mul_le_mul h1 k1 (by omega) hB⟩
theorem upI_spec {n k : Int} (hn : 0 ≤ n) (hk : 1 ≤ k) : n ≤ k * upI k n ∧ k * upI k n ≤ n + k - 1 ∧ 0 ≤ upI k n := by
  unfold upI
  have e : Int.tdiv (n + k - 1) k = (n + k - 1) / k := Int.tdiv_eq_ediv_of_nonneg (by omega)
  rw [e]
  have h1 := Int.mul_ediv_add_emod (n + k - 1) k
  have h2 := Int.emod_nonneg (n + k - 1) (show k ≠ 0 by omega)
  have h3 := Int.emod_lt_of_pos (n + k - 1) (show 0 < k by omega)
  refine ⟨by omega, by omega, Int.ediv_nonneg (by omega) (by omega)⟩
theorem upI_le {n k B : Int} (hn : 0 ≤ n) (hk : 1 ≤ k) (hB : n ≤ B) : upI k n ≤ B := by
  obtain ⟨h1, h2, h3⟩ := upI_spec hn hk
  apply Classical.byContradiction
  intro h
  have h4 : k * (B + 1) ≤ k * upI k n := Int.mul_le_mul_of_nonneg_left (by omega) (by omega)
  have h5 : k * (B + 1) = k * B + k := by rw [Int.mul_add, Int.mul_one]
  have h6 : 1 * B ≤ k * B := Int.mul_le_mul_of_nonneg_right hk (by omega)
  omega
theorem upI_pos {n k : Int} (hn : 1 ≤ n) (hk : 1 ≤ k) : 1 ≤ upI k n := by
  obtain ⟨h1, h2, h3⟩ := upI_spec (n := n) (by omega) hk
  apply Classical.byContradiction
  intro h
  have : upI k n = 0 := by omega
  rw [this] at h1
  omega
theorem i_valid2 (c : Con) : i_Constraint_valid c = some (validC c) := by
  unfold i_Constraint_valid validC
  rw [i_valid, Option.bind_some]
  cases okCon c <;> rfl
theorem clone_term (xs : List Term) (h : xs.length ≤ 4000000) : slices_Clone_implTerm xs = some xs := by
  unfold slices_Clone_implTerm
  rw [app_le (by simp; omega)]
  rfl
theorem i_changed {c : Con} (hc : okCon c = true) (f : Int → Int) (g : Int → Option Int) (h1 : g c.bound = some (f c.bound)) (h2 : ∀ t ∈ c.terms, g t.coef = some (f t.coef)) : i_Constraint_changed c g = some (validC (scaleC f c)) := by
  obtain ⟨_, hn, _, _, _⟩ := okCon_parts hc
  unfold i_Constraint_changed i_Constraint_own
  rw [clone_term c.terms (by omega), Option.bind_some, Option.bind_some, h1, Option.bind_some]
  have := range_to (b := i_Constraint_changed_b1 g) (fun i => (c.terms.take i).map (fun t => (⟨f t.coef, t.lit⟩ : Term)) ++ c.terms.drop i) c.terms (by
    intro i t ht
    have hi := (List.getElem?_eq_some_iff.1 ht).1
    have hl : ((c.terms.take i).map (fun t => (⟨f t.coef, t.lit⟩ : Term))).length = i := by simp; omega
    have hd : c.terms.drop i = t :: c.terms.drop (i + 1) := by
      rw [List.drop_eq_getElem_cons hi]
      have := (List.getElem?_eq_some_iff.1 ht).2
      rw [this]
    have e1 : idx ((c.terms.take i).map (fun t => (⟨f t.coef, t.lit⟩ : Term)) ++ c.terms.drop i) (i : Int) = some t := by
      rw [idx_nat, List.getElem?_append_right (by omega), hl, Nat.sub_self, hd]
      rfl
    rw [i_Constraint_changed_b1, e1, Option.bind_some, h2 t (List.mem_of_getElem? ht), Option.bind_some, Int.toNat_natCast, take_snoc ht, List.map_append, hd]
    congr 2
    rw [List.set_append_right _ _ (by omega), hl, Nat.sub_self]
    simp)
  have e0 : c.terms = (c.terms.take 0).map (fun t => (⟨f t.coef, t.lit⟩ : Term)) ++ c.terms.drop 0 := by simp
  have e1 : (c.terms.take c.terms.length).map (fun t => (⟨f t.coef, t.lit⟩ : Term)) ++ c.terms.drop c.terms.length = (scaleC f c).terms := by simp [scaleC]
  rw [← e0, e1] at this
  simp only
  rw [this, Option.bind_some]
  simp only
  rw [i_valid2]
  rfl
theorem i_mul (c : Con) (k : Int) : i_MultiplyConstraint c k = some (mulC c k) := by
  unfold i_MultiplyConstraint mulC i_within
  rw [i_valid c, Option.bind_some]
  cases hc : okCon c with
  | false => rfl
  | true =>
    obtain ⟨h1, h2, h3, h4, h5⟩ := okCon_parts hc
    have ek : (decide (1 ≤ k) && decide (k ≤ 1000)) = okK k := rfl
    rw [ek]
    cases hk : okK k with
    | false => rfl
    | true =>
      rw [okK_iff] at hk
      simp only [Bool.not_true, Bool.false_eq_true, if_false, Option.bind_some, Bool.and_self, if_true]
      rw [i_changed hc (· * k) (i_MultiplyConstraint_1 k)]
      · rfl
      · have := mul_bound (n := c.bound) (B := 20000) h4 h5 hk.1 hk.2 (by omega)
        rw [i_MultiplyConstraint_1, i64_id (by omega) (by omega)]
      · intro t ht
        obtain ⟨_, _, _, q3, q4⟩ := okT_lit (h3 t ht)
        have := mul_bound (n := t.coef) (B := 1000) (by omega) q4 hk.1 hk.2 (by omega)
        rw [i_MultiplyConstraint_1, i64_id (by omega) (by omega)]
theorem up_eq {n k B : Int} (hn : 0 ≤ n) (hB : n ≤ B) (hB2 : B ≤ 1000000) (hk : 1 ≤ k) (hk2 : k ≤ 1000) : i64 (Int.tdiv (i64 ((i64 (n + k)) - 1)) k) = upI k n := by
  have h1 := upI_le hn hk hB
  have h2 := (upI_spec hn hk).2.2
  rw [i64_id (n := n + k) (by omega) (by omega), i64_id (n := n + k - 1) (by omega) (by omega)]
  show i64 (upI k n) = _
  rw [i64_id (by omega) (by omega)]
theorem div_ok {c : Con} (hc : okCon c = true) {k : Int} (hk : 1 ≤ k) : okCon (scaleC (upI k) c) = true := by
  obtain ⟨h1, h2, h3, h4, h5⟩ := okCon_parts hc
  have := okTerms_map (fun t => (⟨upI k t.coef, t.lit⟩ : Term)) c.terms 0 h1 fun t ht hkt => by
    obtain ⟨q0, q1, q2, q3, q4⟩ := okT_lit hkt
    have a1 := upI_pos q3 hk
    have a2 := upI_le (n := t.coef) (by omega) hk q4
    refine ⟨?_, rfl⟩
    unfold okT
    simp
    omega
  have a1 := (upI_spec h4 hk).2.2
  have a2 := upI_le h4 hk h5
  unfold okCon okB scaleC
  simp only [this]
  simp
  omega
theorem i_div (c : Con) (k : Int) : i_DivideConstraint c k = some (divC c k) := by
  unfold i_DivideConstraint divC i_within
  rw [i_valid c, Option.bind_some]
  cases hc : okCon c with
  | false => rfl
  | true =>
    obtain ⟨h1, h2, h3, h4, h5⟩ := okCon_parts hc
    have ek : (decide (1 ≤ k) && decide (k ≤ 1000)) = okK k := rfl
    rw [ek]
    cases hk : okK k with
    | false => rfl
    | true =>
      rw [okK_iff] at hk
      simp only [Bool.not_true, Bool.false_eq_true, if_false, Option.bind_some, Bool.and_self, if_true]
      rw [i_changed hc (upI k) (i_DivideConstraint_1 k)]
      · rw [Option.bind_some, validC, div_ok hc hk.1]
        rfl
      · rw [i_DivideConstraint_1, if_neg (by omega), up_eq h4 h5 (by omega) hk.1 hk.2]
        rfl
      · intro t ht
        obtain ⟨_, _, _, q3, q4⟩ := okT_lit (h3 t ht)
        rw [i_DivideConstraint_1, if_neg (by omega), up_eq (n := t.coef) (by omega) q4 (by omega) hk.1 hk.2]
        rfl
theorem mulC_ok {c d : Con} {k : Int} (h : mulC c k = (d, true)) : okCon d = true ∧ ∀ v, evalC c v = true → evalC d v = true := by
  unfold mulC at h
  split at h
  · rename_i hc
    rw [Bool.and_eq_true, okK_iff] at hc
    unfold validC at h
    split at h
    · rename_i hd
      simp only [Prod.mk.injEq, and_true] at h
      subst h
      refine ⟨hd, fun v hv => ?_⟩
      rw [evalC_iff] at hv ⊢
      show c.bound * k ≤ sumV v (c.terms.map fun t => ⟨t.coef * k, t.lit⟩)
      rw [sumV_map_ge v (f := fun t => ⟨t.coef * k, t.lit⟩) c.terms fun _ _ => rfl]
      have key : ∀ ts : List Term, sumR (fun t => if trueL v t.lit then t.coef * k else 0) ts = sumV v ts * k := by
        intro ts
        induction ts with
        | nil => simp [sumV, sumR]
        | cons t ts ih =>
          unfold sumV at *
          simp only [sumR]
          rw [ih, Int.add_mul]
          cases trueL v t.lit <;> simp
      rw [key]
      exact Int.mul_le_mul_of_nonneg_right hv (by omega)
    · cases h
  · cases h
theorem divC_ok {c d : Con} {k : Int} (h : divC c k = (d, true)) : okCon d = true ∧ ∀ v, evalC c v = true → evalC d v = true := by
  unfold divC at h
  split at h
  · rename_i hc
    rw [Bool.and_eq_true, okK_iff] at hc
    simp only [Prod.mk.injEq, and_true] at h
    obtain ⟨h1, h2, h3, h4, h5⟩ := okCon_parts hc.1
    subst h
    refine ⟨div_ok hc.1 hc.2.1, fun v hv => ?_⟩
    rw [evalC_iff] at hv ⊢
    show upI k c.bound ≤ sumV v (c.terms.map fun t => ⟨upI k t.coef, t.lit⟩)
    rw [sumV_map_ge v (f := fun t => ⟨upI k t.coef, t.lit⟩) c.terms fun _ _ => rfl]
    show upI k c.bound ≤ sumR (fun t => if trueL v t.lit then upI k t.coef else 0) c.terms
    have key : ∀ ts : List Term, (∀ t ∈ ts, okT t = true) → sumV v ts ≤ k * sumR (fun t => if trueL v t.lit then upI k t.coef else 0) ts := by
      intro ts
      induction ts with
      | nil => intro _; simp [sumV, sumR]
      | cons t ts ih =>
        intro h
        have := ih fun u hu => h u (by simp [hu])
        obtain ⟨_, _, _, q3, q4⟩ := okT_lit (h t (by simp))
        have hu := (upI_spec (n := t.coef) (by omega) hc.2.1).1
        unfold sumV at *
        simp only [sumR]
        rw [Int.mul_add]
        cases trueL v t.lit <;> simp <;> omega
    have := key c.terms h3
    obtain ⟨u1, u2, u3⟩ := upI_spec h4 hc.2.1
    apply Classical.byContradiction
    intro hlt
    have h6 : k * (sumR (fun t => if trueL v t.lit then upI k t.coef else 0) c.terms + 1) ≤ k * upI k c.bound := Int.mul_le_mul_of_nonneg_left (by omega) (by omega)
    rw [Int.mul_add, Int.mul_one] at h6
    omega
  · cases h
end Go.L
