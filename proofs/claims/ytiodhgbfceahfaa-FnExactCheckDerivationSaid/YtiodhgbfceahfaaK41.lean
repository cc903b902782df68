/- Sizes, copies, comparisons and marks of constraints and steps. -/
import Derived.Test.YtiodhgbfceahfaaK2g
import Derived.Test.YtiodhgbfceahfaaKM
import Derived.Test.YtiodhgbfceahfaaK35
namespace Go.L
open Go Go.E
set_option linter.unusedVariables false
set_option linter.unusedSimpArgs false
set_option maxRecDepth 100000
def smC (c : Con) : Prop := c.terms.length ≤ 1048576
def smCs (xs : List Con) : Prop := xs.length ≤ 1048576 ∧ ∀ c ∈ xs, smC c
def smSs (xs : List Step) : Prop := xs.length ≤ 1048576 ∧ ∀ s ∈ xs, smC s.given
theorem szCon (a : Con) (left : Int) (h0 : 0 ≤ left) (h1 : left ≤ 1048576) (ha : a.terms.length ≤ ML) : ∃ r, l_szConstraint a left = some r ∧ SzOk r left (smC a) := by
  unfold l_szConstraint
  exact sz_end (sz_len (a := a.terms) rfl h0 h1 ha)
theorem szCons (a : List Con) (left : Int) (h0 : 0 ≤ left) (h1 : left ≤ 1048576) (ha : a.length ≤ ML) (hel : ∀ c ∈ a, c.terms.length ≤ ML) : ∃ r, l_szConstraintS a left = some r ∧ SzOk r left (smCs a) :=
  sz_list (one := l_szConstraint) rfl (fun _ _ _ => rfl) h0 h1 ha fun x hx l h0 h1 => szCon x l h0 h1 (hel x hx)
theorem szStep (a : Step) (left : Int) (h0 : 0 ≤ left) (h1 : left ≤ 1048576) (ha : a.given.terms.length ≤ ML) : ∃ r, l_szStep a left = some r ∧ SzOk r left (smC a.given) := by
  unfold l_szStep
  exact sz_end (szCon a.given left h0 h1 ha)
theorem szSteps (a : List Step) (left : Int) (h0 : 0 ≤ left) (h1 : left ≤ 1048576) (ha : a.length ≤ ML) (hel : ∀ s ∈ a, s.given.terms.length ≤ ML) : ∃ r, l_szStepS a left = some r ∧ SzOk r left (smSs a) :=
  sz_list (one := l_szStep) rfl (fun _ _ _ => rfl) h0 h1 ha fun x hx l h0 h1 => szStep x l h0 h1 (hel x hx)
theorem toTerms (a : List Term) (ha : a.length ≤ 1048576) : l_toTermS a = some a := copy_list (one := some) (b := l_toTermS_b1) (z := ⟨0, 0⟩) rfl (fun _ => rfl) ha (by intros; rfl) fun _ _ => rfl
theorem toCon (a : Con) (h : smC a) : l_toConstraint a = some a := by
  unfold l_toConstraint
  rw [toTerms _ h]
  rfl
theorem toCons (a : List Con) (h : smCs a) : l_toConstraintS a = some a :=
  copy_list (one := l_toConstraint) (b := l_toConstraintS_b1) (z := ⟨[], 0⟩) rfl (fun _ => rfl) h.1 (by intros; rfl) fun x hx => toCon x (h.2 x hx)
theorem toStep (a : Step) (h : smC a.given) : l_toStep a = some a := by
  unfold l_toStep
  rw [toCon _ h]
  rfl
theorem toSteps (a : List Step) (h : smSs a) : l_toStepS a = some a :=
  copy_list (one := l_toStep) (b := l_toStepS_b1) (z := ⟨0, 0, 0, ⟨[], 0⟩⟩) rfl (fun _ => rfl) h.1 (by intros; rfl) fun x hx => toStep x (h.2 x hx)
theorem eqTerm (t : Term) : l_eqTerm t t = some true := by
  unfold l_eqTerm
  simp
theorem eqTerms (a : List Term) : l_eqTermS a a = some true :=
  same_list (one := l_eqTerm) rfl rfl (fun i x hx => by show (idx a (i : Int)).bind _ = _; rw [idx_self hx]; rfl) fun x _ => eqTerm x
theorem eqCon (a : Con) : l_eqConstraint a a = some true := by
  unfold l_eqConstraint
  simp [eqTerms]
theorem eqCons (a : List Con) : l_eqConstraintS a a = some true :=
  same_list (one := l_eqConstraint) rfl rfl (fun i x hx => by show (idx a (i : Int)).bind _ = _; rw [idx_self hx]; rfl) fun x _ => eqCon x
theorem eqStep (a : Step) : l_eqStep a a = some true := by
  unfold l_eqStep
  simp [eqCon]
theorem eqSteps (a : List Step) : l_eqStepS a a = some true :=
  same_list (one := l_eqStep) rfl rfl (fun i x hx => by show (idx a (i : Int)).bind _ = _; rw [idx_self hx]; rfl) fun x _ => eqStep x
end Go.L
