/- Propagation as a plain function; it ends, stays below what satisfies the constraints, and ends closed. -/
import Derived.Test.YtiodhgbfceahfaaGreatK25
namespace Go.L
open Go Go.E
set_option linter.unusedVariables false
set_option linter.unusedSimpArgs false
set_option maxRecDepth 100000
/-! sums over terms -/
def sumR (f : Term → Int) : List Term → Int
  | [] => 0
  | t :: ts => f t + sumR f ts
theorem okT_lit12 {t : Term} (h : okT t = true) : lit12 t.lit := ⟨(okT_lit h).1, (okT_lit h).2.1, (okT_lit h).2.2.1⟩
theorem impL_mem {p : List Int} {sl : Int} {ts : List Term} {l : Int} (h : l ∈ impL p sl ts) : ∃ t ∈ ts, t.lit = l ∧ stt p l = 0 ∧ t.coef > sl := by
  unfold impL at h
  obtain ⟨t, ht, rfl⟩ := List.mem_map.1 h
  rw [List.mem_filter] at ht
  have := ht.2
  unfold impT at this
  simp at this
  exact ⟨t, ht.1, rfl, this.1, this.2⟩
/-! propagation -/
inductive PR
  | conf (p : List Int) (i : Nat)
  | go (p : List Int) (m : Bool)
def pass : List Con → Nat → List Int → Bool → PR
  | [], _, p, m => .go p m
  | c :: cs, i, p, m => if slackC c p < 0 then .conf p i else pass cs (i + 1) (asgL p (impL p (slackC c p) c.terms)) (m || !(impL p (slackC c p) c.terms).isEmpty)
def prop : Nat → List Con → List Int → List Int × Int
  | 0, _, p => (p, -1)
  | n + 1, cs, p => match pass cs 0 p false with
    | .conf p' i => (p', (i : Int))
    | .go p' m => if m then prop n cs p' else (p', -1)
def zer (p : List Int) : Nat := p.countP (· == 0)
theorem zer_set (p : List Int) (k : Nat) (x : Int) (hk : k < p.length) (hx : x ≠ 0) : zer (p.set k x) + (if p.getD k 0 = 0 then 1 else 0) = zer p := by
  unfold zer
  induction p generalizing k with
  | nil => simp at hk
  | cons a p ih =>
    cases k with
    | zero => simp only [List.set_cons_zero, List.countP_cons, List.getD_cons_zero]; simp [hx]
    | succ k =>
      have := ih k (by simpa using hk)
      simp only [List.set_cons_succ, List.countP_cons, List.getD_cons_succ]
      omega
theorem zer_asg {p : List Int} (hp : okP p) {l : Int} (hl : lit12 l) : zer (asg p l) ≤ zer p ∧ (stt p l = 0 → zer (asg p l) < zer p) := by
  obtain ⟨h0, h1, h2⟩ := hl
  unfold asg stt
  split
  · have := zer_set p (l - 1).toNat 1 (by rw [hp.1]; omega) (by omega)
    constructor
    · omega
    · intro h; rw [if_pos h] at this; omega
  · have := zer_set p (-l - 1).toNat (-1) (by rw [hp.1]; omega) (by omega)
    constructor
    · omega
    · intro h; rw [if_pos (by omega)] at this; omega
theorem zer_asgL : ∀ (ls : List Int) {p : List Int}, okP p → (∀ l ∈ ls, lit12 l) → zer (asgL p ls) ≤ zer p
  | [], p, _, _ => Nat.le_refl _
  | l :: ls, p, hp, h => Nat.le_trans (zer_asgL ls (asg_ok hp l) fun x hx => h x (by simp [hx])) (zer_asg hp (h l (by simp))).1
theorem impL_lit {p : List Int} {c : Con} (hc : okCon c = true) {sl : Int} : ∀ l ∈ impL p sl c.terms, lit12 l := by
  intro l hl
  obtain ⟨t, ht, rfl, _, _⟩ := impL_mem hl
  exact okT_lit12 ((okCon_parts hc).2.2.1 t ht)
theorem zer_imp {p : List Int} (hp : okP p) {c : Con} (hc : okCon c = true) {sl : Int} (hn : impL p sl c.terms ≠ []) : zer (asgL p (impL p sl c.terms)) < zer p := by
  have hl := impL_lit (p := p) hc (sl := sl)
  cases h : impL p sl c.terms with
  | nil => exact absurd h hn
  | cons l ls =>
    rw [h] at hl
    obtain ⟨t, ht, _, h0, _⟩ := impL_mem (l := l) (by rw [h]; simp)
    have := zer_asgL ls (asg_ok hp l) fun x hx => hl x (by simp [hx])
    have := (zer_asg hp (hl l (by simp))).2 h0
    show zer (asgL (asg p l) ls) < _
    omega
/-- a pass that changes something lowers the number of gaps -/
theorem pass_zer : ∀ (cs : List Con) (i : Nat) (p : List Int) (m : Bool), okP p → (∀ c ∈ cs, okCon c = true) → ∀ p' m', pass cs i p m = .go p' m' → okP p' ∧ zer p' ≤ zer p ∧ (m' = true → m = true ∨ zer p' < zer p)
  | [], i, p, m, hp, _, p', m', h => by
    cases h
    exact ⟨hp, Nat.le_refl _, fun h => .inl h⟩
  | c :: cs, i, p, m, hp, hc, p', m', h => by
    rw [pass] at h
    split at h
    · cases h
    · have hcc := hc c (by simp)
      obtain ⟨g1, g2, g3⟩ := pass_zer cs _ _ _ (asgL_ok _ hp) (fun x hx => hc x (by simp [hx])) p' m' h
      have hz := zer_asgL (impL p (slackC c p) c.terms) hp (impL_lit hcc)
      refine ⟨g1, by omega, fun hm => ?_⟩
      rcases g3 hm with h1 | h1
      · rw [Bool.or_eq_true] at h1
        rcases h1 with h1 | h1
        · exact .inl h1
        · refine .inr ?_
          have := zer_imp hp hcc (sl := slackC c p) (by intro e; rw [e] at h1; simp at h1)
          omega
      · exact .inr (by omega)
end Go.L
