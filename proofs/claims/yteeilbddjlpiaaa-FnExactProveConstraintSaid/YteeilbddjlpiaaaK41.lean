/- Sizes, copies, comparisons and marks of constraints and steps. -/
import Derived.Test.YteeilbddjlpiaaaK2g
import Derived.Test.YteeilbddjlpiaaaKM

namespace Go.L
open Go Go.E
set_option linter.unusedVariables false
set_option linter.unusedSimpArgs false
set_option maxRecDepth 100000
def smC (c : Con) : Prop := c.terms.length ≤ 1048576
def smCs (xs : List Con) : Prop := xs.length ≤ 1048576 ∧ ∀ c ∈ xs, smC c
def smSs (xs : List Step) : Prop := xs.length ≤ 1048576 ∧ ∀ s ∈ xs, smC s.given
theorem szCon (a : Con) (left : Int) (h0 : 0 ≤ left) (h1 : left ≤ 1048576) (ha : a.terms.length ≤ ML) : ∃ r, l_szConstraint a left = some r ∧ SzOk r left (smC a) := by
  unfold l_szConstraint
  exact sz_end (sz_len (a := a.terms) rfl h0 h1 ha)
theorem szCons (a : List Con) (left : Int) (h0 : 0 ≤ left) (h1 : left ≤ 1048576) (ha : a.length ≤ ML) (hel : ∀ c ∈ a, c.terms.length ≤ ML) : ∃ r, l_szConstraintS a left = some r ∧ SzOk r left (smCs a) :=
  sz_list (one := l_szConstraint) rfl (fun _ _ _ => rfl) h0 h1 ha fun x hx l h0 h1 => szCon x l h0 h1 (hel x hx)
theorem toTerms (a : List Term) (ha : a.length ≤ 1048576) : l_toTermS a = some a := copy_list (one := some) (b := l_toTermS_b1) (z := ⟨0, 0⟩) rfl (fun _ => rfl) ha (by intros; rfl) fun _ _ => rfl
theorem toCon (a : Con) (h : smC a) : l_toConstraint a = some a := by
  unfold l_toConstraint
  rw [toTerms _ h]
  rfl
theorem toCons (a : List Con) (h : smCs a) : l_toConstraintS a = some a :=
  copy_list (one := l_toConstraint) (b := l_toConstraintS_b1) (z := ⟨[], 0⟩) rfl (fun _ => rfl) h.1 (by intros; rfl) fun x hx => toCon x (h.2 x hx)
theorem eqTerm (t : Term) : l_eqTerm t t = some true := by
  unfold l_eqTerm
  simp
theorem eqTerms (a : List Term) : l_eqTermS a a = some true :=
  same_list (one := l_eqTerm) rfl rfl (fun i x hx => by show (idx a (i : Int)).bind _ = _; rw [idx_self hx]; rfl) fun x _ => eqTerm x
theorem eqCon (a : Con) : l_eqConstraint a a = some true := by
  unfold l_eqConstraint
  simp [eqTerms]
theorem eqCons (a : List Con) : l_eqConstraintS a a = some true :=
  same_list (one := l_eqConstraint) rfl rfl (fun i x hx => by show (idx a (i : Int)).bind _ = _; rw [idx_self hx]; rfl) fun x _ => eqCon x
theorem eqStep (a : Step) : l_eqStep a a = some true := by
  unfold l_eqStep
  simp [eqCon]
theorem eqSteps (a : List Step) : l_eqStepS a a = some true :=
  same_list (one := l_eqStep) rfl rfl (fun i x hx => by show (idx a (i : Int)).bind _ = _; rw [idx_self hx]; rfl) fun x _ => eqStep x
/-! marks -/
theorem mkTerms (xs : List Term) (hl : xs.length ≤ 1048576) (fu : Nat) (hf : FV ≤ fu) (k : Int) (h0 : 0 ≤ k) (hK : k + 4194304 ≤ 9000000000000000000) :
    ∃ k' a', l_markTermS fu xs k = some (k', a') ∧ l_heldTermS a' k = some k' ∧ k ≤ k' ∧ k' ≤ k + 2097152 := by
  obtain ⟨a', k', j, e, _, hch, h1, h2⟩ := mark_all (b := l_markTermS_b1) (fun y k k' => y = (⟨k, k + 1⟩ : Term) ∧ k' = k + 2 ∧ 0 ≤ k ∧ k ≤ 9000000000000000000) 2 9000000000000000000 (by omega) xs hl
    (fun a k i x hx _ h0 h1 => ⟨⟨k, k + 1⟩, k + 2, by
      have hi := (List.getElem?_eq_some_iff.1 hx).1
      show (if decide ((i : Int) < (a.length : Int)) then _ else _) = _
      rw [mk_lt hx, if_pos rfl, idx_nat, hx, Option.bind_some]
      simp only [Int.toNat_natCast, idx_set_self hx, Option.bind_some, List.set_set, i64_id (n := k + 1) (by omega) (by omega)]
      rw [i64_id (n := k + 1 + 1) (by omega) (by omega)]
      congr 4
      omega, ⟨rfl, rfl, h0, h1⟩, by omega, by omega⟩)
    (fun a k i h => by show (if decide ((i : Int) < (a.length : Int)) then _ else _) = _; rw [mk_ge h]; rfl) k fu hf h0 (by omega)
  refine ⟨k', a', ?_, ?_, h1, by omega⟩
  · unfold l_markTermS; rw [e]; rfl
  · unfold l_heldTermS
    rw [chain_range (b := l_heldTermS_b1) (P := fun y k k' => y = (⟨k, k + 1⟩ : Term) ∧ k' = k + 2 ∧ 0 ≤ k ∧ k ≤ 9000000000000000000) ?_ a' 0 k k' hch]
    · rfl
    · rintro i y k k' ⟨rfl, rfl, q0, q1⟩
      rw [l_heldTermS_b1]
      simp only [bne_self_eq_false, Bool.false_eq_true, if_false, i64_id (n := k + 1) (by omega) (by omega)]
      rw [i64_id (by omega) (by omega)]
      congr 2
      omega
def PS (y : Step) (k k' : Int) : Prop := y.kind = k ∧ y.a = k + 1 ∧ y.b = k + 2 ∧ l_heldTermS y.given.terms (k + 3) = some (k' - 1) ∧ y.given.bound = k' - 1 ∧ 0 ≤ k ∧ k ≤ 8000000000000000000 ∧ 0 ≤ k' - 1 ∧ k' ≤ 9000000000000000000
theorem mkSteps (xs : List Step) (h : smSs xs) (fu : Nat) (hf : FV ≤ fu) (k : Int) (h0 : 0 ≤ k) (hK : k ≤ 1000000000000000000) :
    ∃ k' a', l_markStepS fu xs k = some (k', a') ∧ chain PS a' k k' ∧ k ≤ k' ∧ k' ≤ k + 2199027449856 := by
  obtain ⟨a', k', j, e, _, hch, h1, h2⟩ := mark_all (b := l_markStepS_b1 fu xs) PS 2097156 8000000000000000000 (by omega) xs h.1
    (fun a k i x hx hm h0 h1 => by
      obtain ⟨k1, y1, e1, g1, p1, q1⟩ := mkTerms x.given.terms (h.2 x hm) fu hf (k + 3) (by omega) (by omega)
      have hi := (List.getElem?_eq_some_iff.1 hx).1
      refine ⟨⟨k, k + 1, k + 2, ⟨y1, k1⟩⟩, k1 + 1, ?_, ⟨rfl, rfl, rfl, by simp only; rw [g1]; congr 1; omega, by simp only; omega, h0, h1, by omega, by omega⟩, by omega, by omega⟩
      show (if decide ((i : Int) < (a.length : Int)) then _ else _) = _
      have z1 : i64 (k + 1) = k + 1 := i64_id (by omega) (by omega)
      have z2 : i64 (k + 1 + 1) = k + 2 := by rw [i64_id (by omega) (by omega)]; omega
      have z3 : i64 (k + 2 + 1) = k + 3 := by rw [i64_id (by omega) (by omega)]; omega
      rw [mk_lt hx, if_pos rfl, idx_nat, hx, Option.bind_some]
      simp only [Int.toNat_natCast, idx_set_self hx, Option.bind_some, List.set_set, z1, z2, z3, e1, i64_id (n := k1 + 1) (by omega) (by omega)])
    (fun a k i h => by show (if decide ((i : Int) < (a.length : Int)) then _ else _) = _; rw [mk_ge h]; rfl) k fu hf h0 (by omega)
  exact ⟨k', a', by unfold l_markStepS; rw [e]; rfl, hch, h1, by omega⟩
end Go.L
