/- Sizes, copies and comparisons of arguments: integers, rules, models. -/
import Derived.Test.YteojddfaiomfmaaL1
import Derived.Test.YteojddfaiomfmaaD1
namespace Go.L
open Go Go.E
set_option linter.unusedVariables false

theorem i64_sub {a b : Int} (h1 : 0 ≤ a) (h2 : a ≤ 1048576) (h3 : 0 ≤ b) (h4 : b ≤ 9223372036854775807) : i64 (a - b) = a - b := i64_id (by omega) (by omega)
/-- what a size check says -/
def SzOk (r left : Int) (good : Prop) : Prop := r < 0 ∨ (0 ≤ r ∧ r ≤ left ∧ good)
def ML : Nat := 9223372036854775807

theorem szIntS (a : List Int) (left : Int) (h0 : 0 ≤ left) (h1 : left ≤ 1048576) (ha : a.length ≤ ML) : ∃ r, l_szIntS a left = some r ∧ SzOk r left (a.length ≤ 1048576) := by
  unfold l_szIntS
  have : (a.length : Int) ≤ 9223372036854775807 := by unfold ML at ha; omega
  rw [i64_sub h0 h1 (by omega) this]
  by_cases h : left - (a.length : Int) < 0
  · exact ⟨-1, by rw [if_pos (by simpa using h)], .inl (by omega)⟩
  · exact ⟨left - a.length, by rw [if_neg (by simpa using h)], .inr ⟨by omega, by omega, by omega⟩⟩
/-- one size check of a list whose elements have one of their own -/
theorem sz_list {α : Type} (one : Nat → α → Int → Option Int) (good : α → Prop) (xs : List α) (left : Int) (h1 : left ≤ 1048576) (hx : xs.length ≤ ML) (b : Nat → (Int × Int) → Option (Lo (Int × Int) Int))
    (hb : ∀ fu l (i : Nat) (x : α), i < xs.length → xs[i]? = some x → b fu (l, (i : Int)) = (one fu x l).bind fun r => if decide (r < 0) then some (.out (-1)) else some (.cont (r, i64 ((i : Int) + 1))))
    (he : ∀ fu l, b fu (l, (xs.length : Int)) = some (.brk (l, (xs.length : Int))))
    (hone : ∀ x ∈ xs, ∀ l, 0 ≤ l → l ≤ 1048576 → ∃ r, Ev (fun fu => one fu x l) r ∧ SzOk r l (good x)) (h0 : 0 ≤ left) :
    ∃ j, EvW b (left, 0) j ∧ (match j with | .nx (l, _) => 0 ≤ l ∧ l ≤ left ∧ ∀ x ∈ xs, good x | .out t => t = -1) := by
  refine evw_loop (fun n s => ∃ i : Nat, n = xs.length - i ∧ i ≤ xs.length ∧ s.2 = (i : Int) ∧ 0 ≤ s.1 ∧ s.1 ≤ left ∧ ∀ x ∈ xs.take i, good x)
    (fun j => match j with | .nx (l, _) => 0 ≤ l ∧ l ≤ left ∧ ∀ x ∈ xs, good x | .out t => t = -1) ?_ _ _ ⟨0, rfl, by omega, rfl, h0, Int.le_refl _, by simp⟩
  rintro n ⟨l, k⟩ ⟨i, rfl, hi, hk, hl0, hl1, hg⟩
  simp only at hk hl0 hl1
  subst hk
  rcases Nat.lt_or_ge i xs.length with hlt | hge
  · obtain ⟨r, hr, hok⟩ := hone xs[i] (List.getElem_mem hlt) l hl0 (by omega)
    rcases hok with hneg | ⟨hr0, hr1, hgood⟩
    · refine ⟨.out (-1), ?_, rfl⟩
      refine Ev.congr (g := fun fu => (one fu xs[i] l).bind fun r => if decide (r < 0) then some (.out (-1)) else some (.cont (r, i64 ((i : Int) + 1)))) ?_ fun fu => hb fu l i _ hlt (List.getElem?_eq_getElem hlt)
      exact hr.bind (Ev.of fun fu => by rw [if_pos (by simpa using hneg)])
    · refine ⟨.cont (r, ((i + 1 : Nat) : Int)), ?_, ⟨_, ?_, i + 1, rfl, hlt, rfl, hr0, by omega, ?_⟩⟩
      · refine Ev.congr (g := fun fu => (one fu xs[i] l).bind fun r => if decide (r < 0) then some (.out (-1)) else some (.cont (r, i64 ((i : Int) + 1)))) ?_ fun fu => hb fu l i _ hlt (List.getElem?_eq_getElem hlt)
        exact hr.bind (Ev.of fun fu => by rw [if_neg (by simp; omega), i64s hlt hx])
      · omega
      · intro x hx'
        rw [List.take_add_one, List.getElem?_eq_getElem hlt] at hx'
        rcases List.mem_append.1 hx' with h | h
        · exact hg x h
        · simp at h; rw [h]; exact hgood
  · obtain rfl : i = xs.length := by omega
    exact ⟨.brk (l, (xs.length : Int)), Ev.of fun fu => he fu l, hl0, hl1, by simpa using hg⟩
theorem szIntSS (a : List (List Int)) (left : Int) (h0 : 0 ≤ left) (h1 : left ≤ 1048576) (ha : a.length ≤ ML) (hel : ∀ x ∈ a, x.length ≤ ML) :
    ∃ r, Ev (fun fu => l_szIntSS fu a left) r ∧ SzOk r left (a.length ≤ 1048576 ∧ ∀ x ∈ a, x.length ≤ 1048576) := by
  unfold l_szIntSS
  have hl : (a.length : Int) ≤ 9223372036854775807 := by unfold ML at ha; omega
  rw [i64_sub h0 h1 (by omega) hl]
  by_cases h : left - (a.length : Int) < 0
  · exact ⟨-1, Ev.of fun fu => by rw [if_pos (by simpa using h)], .inl (by omega)⟩
  · obtain ⟨j, hj, hQ⟩ := sz_list (fun _ x l => l_szIntS x l) (fun x => x.length ≤ 1048576) a (left - a.length) (by omega) ha (fun _ => l_szIntSS_b1 a)
      (by
        intro fu l i x hi hx
        show (if _ then _ else _) = _
        rw [if_pos (by simp; omega), idx_nat, hx]
        rfl)
      (by
        intro fu l
        show (if _ then _ else _) = _
        rw [if_neg (by simp)])
      (by
        intro x hx l hl0 hl1
        obtain ⟨r, hr, hok⟩ := szIntS x l hl0 hl1 (hel x hx)
        exact ⟨r, Ev.of_const hr, hok⟩) (by omega)
    cases j with
    | nx s => exact ⟨s.1, Ev.ite (fun hc => absurd hc (by simpa using h)) fun _ => hj.ev.bind (Ev.ret _), .inr ⟨hQ.1, by have := hQ.2.1; omega, by omega, hQ.2.2⟩⟩
    | out t => exact ⟨t, Ev.ite (fun hc => absurd hc (by simpa using h)) fun _ => hj.ev.bind (Ev.ret _), .inl (by rw [show t = -1 from hQ]; omega)⟩
def lenR (r : Rule) : Prop := r.vars.length ≤ ML ∧ r.coefs.length ≤ ML ∧ r.rows.length ≤ ML ∧ ∀ x ∈ r.rows, x.length ≤ ML
def smallR (r : Rule) : Prop := r.vars.length ≤ 1048576 ∧ r.coefs.length ≤ 1048576 ∧ r.rows.length ≤ 1048576 ∧ ∀ x ∈ r.rows, x.length ≤ 1048576
def lenM (m : Model) : Prop := m.sizes.length ≤ ML ∧ m.rules.length ≤ ML ∧ ∀ r ∈ m.rules, lenR r
def smallM (m : Model) : Prop := m.sizes.length ≤ 1048576 ∧ m.rules.length ≤ 1048576 ∧ ∀ r ∈ m.rules, smallR r
theorem szRule (a : Rule) (left : Int) (h0 : 0 ≤ left) (h1 : left ≤ 1048576) (ha : lenR a) : ∃ r, Ev (fun fu => l_szRule fu a left) r ∧ SzOk r left (smallR a) := by
  unfold l_szRule
  obtain ⟨r1, e1, o1⟩ := szIntS a.vars left h0 h1 ha.1
  rcases o1 with n1 | ⟨p1, q1, g1⟩
  · exact ⟨-1, (Ev.of_const e1).bind (Ev.ite (fun _ => Ev.ret _) fun hc => absurd hc (by simpa using n1)), .inl (by omega)⟩
  obtain ⟨r2, e2, o2⟩ := szIntS a.coefs r1 p1 (by omega) ha.2.1
  rcases o2 with n2 | ⟨p2, q2, g2⟩
  · exact ⟨-1, (Ev.of_const e1).bind (Ev.ite (fun hc => absurd hc (by simpa using p1)) fun _ => (Ev.of_const e2).bind (Ev.ite (fun _ => Ev.ret _) fun hc => absurd hc (by simpa using n2))), .inl (by omega)⟩
  obtain ⟨r3, e3, o3⟩ := szIntSS a.rows r2 p2 (by omega) ha.2.2.1 ha.2.2.2
  rcases o3 with n3 | ⟨p3, q3, g3, g4⟩
  · exact ⟨-1, (Ev.of_const e1).bind (Ev.ite (fun hc => absurd hc (by simpa using p1)) fun _ => (Ev.of_const e2).bind (Ev.ite (fun hc => absurd hc (by simpa using p2)) fun _ => e3.bind (Ev.ite (fun _ => Ev.ret _) fun hc => absurd hc (by simpa using n3)))), .inl (by omega)⟩
  · exact ⟨r3, (Ev.of_const e1).bind (Ev.ite (fun hc => absurd hc (by simpa using p1)) fun _ => (Ev.of_const e2).bind (Ev.ite (fun hc => absurd hc (by simpa using p2)) fun _ => e3.bind (Ev.ite (fun hc => absurd hc (by simpa using p3)) fun _ => Ev.ret _))), .inr ⟨p3, by omega, g1, g2, g3, g4⟩⟩
theorem szRuleS (a : List Rule) (left : Int) (h0 : 0 ≤ left) (h1 : left ≤ 1048576) (ha : a.length ≤ ML) (hel : ∀ x ∈ a, lenR x) :
    ∃ r, Ev (fun fu => l_szRuleS fu a left) r ∧ SzOk r left (a.length ≤ 1048576 ∧ ∀ x ∈ a, smallR x) := by
  unfold l_szRuleS
  have hl : (a.length : Int) ≤ 9223372036854775807 := by unfold ML at ha; omega
  rw [i64_sub h0 h1 (by omega) hl]
  by_cases h : left - (a.length : Int) < 0
  · exact ⟨-1, Ev.of fun fu => by rw [if_pos (by simpa using h)], .inl (by omega)⟩
  · obtain ⟨j, hj, hQ⟩ := sz_list (fun fu x l => l_szRule fu x l) smallR a (left - a.length) (by omega) ha (fun fu => l_szRuleS_b1 fu a)
      (by
        intro fu l i x hi hx
        show (if _ then _ else _) = _
        rw [if_pos (by simp; omega), idx_nat, hx]
        rfl)
      (by
        intro fu l
        show (if _ then _ else _) = _
        rw [if_neg (by simp)])
      (fun x hx l hl0 hl1 => szRule x l hl0 hl1 (hel x hx)) (by omega)
    cases j with
    | nx s => exact ⟨s.1, Ev.ite (fun hc => absurd hc (by simpa using h)) fun _ => hj.ev.bind (Ev.ret _), .inr ⟨hQ.1, by have := hQ.2.1; omega, by omega, hQ.2.2⟩⟩
    | out t => exact ⟨t, Ev.ite (fun hc => absurd hc (by simpa using h)) fun _ => hj.ev.bind (Ev.ret _), .inl (by rw [show t = -1 from hQ]; omega)⟩
theorem szModel (a : Model) (left : Int) (h0 : 0 ≤ left) (h1 : left ≤ 1048576) (ha : lenM a) : ∃ r, Ev (fun fu => l_szModel fu a left) r ∧ SzOk r left (smallM a) := by
  unfold l_szModel
  obtain ⟨r1, e1, o1⟩ := szIntS a.sizes left h0 h1 ha.1
  rcases o1 with n1 | ⟨p1, q1, g1⟩
  · exact ⟨-1, (Ev.of_const e1).bind (Ev.ite (fun _ => Ev.ret _) fun hc => absurd hc (by simpa using n1)), .inl (by omega)⟩
  obtain ⟨r2, e2, o2⟩ := szRuleS a.rules r1 p1 (by omega) ha.2.1 ha.2.2
  rcases o2 with n2 | ⟨p2, q2, g2, g3⟩
  · exact ⟨-1, (Ev.of_const e1).bind (Ev.ite (fun hc => absurd hc (by simpa using p1)) fun _ => e2.bind (Ev.ite (fun _ => Ev.ret _) fun hc => absurd hc (by simpa using n2))), .inl (by omega)⟩
  · exact ⟨r2, (Ev.of_const e1).bind (Ev.ite (fun hc => absurd hc (by simpa using p1)) fun _ => e2.bind (Ev.ite (fun hc => absurd hc (by simpa using p2)) fun _ => Ev.ret _)), .inr ⟨p2, by omega, g1, g2, g3⟩⟩
end Go.L
