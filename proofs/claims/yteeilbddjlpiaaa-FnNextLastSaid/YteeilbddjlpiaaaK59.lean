/- Drawn searches answer, and what they draw is small. -/
import Derived.Test.YteeilbddjlpiaaaK58
import Derived.Test.YteeilbddjlpiaaaK32
namespace Go.L
open Go Go.E
set_option linter.unusedVariables false
set_option linter.unusedSimpArgs false
set_option maxRecDepth 100000
def smL' (k : Nat) (list : List Con) : Prop := list.length ≤ k ∧ ∀ c ∈ list, c.terms.length ≤ 103
theorem smL'_ML {k : Nat} {list : List Con} (h : smL' k list) : ∀ c ∈ list, c.terms.length ≤ ML := fun c hc => by have := h.2 c hc; unfold ML; omega
theorem hard_ok (r : Rd) (fu : Nat) (hf : FU ≤ fu) (hb : r.b.length ≤ 2000) (h0 : 0 ≤ r.p) (h1 : r.p + 1000 ≤ PM) :
    So (s_l5Hard fu r) fun o => o.1.length ≤ 14 ∧ (∀ c ∈ o.1, c.terms.length ≤ 12) ∧ r.p ≤ o.2 ∧ o.2 ≤ r.p + 700 := by
  unfold PM at h1
  have hF := hf
  unfold FU at hF
  have hpm : ∀ p, p ≤ r.p + 999 → p ≤ PM := fun p hp => by unfold PM; omega
  unfold s_l5Hard
  refine so_bind (problem_ok r fu hf hb h0 (by unfold PM; omega)) fun x ⟨x1, x2, x3, x4⟩ => ?_
  refine so_bind (num_ok ⟨r.b, x.2⟩ _ (by simp) hb (by simp only; omega) (hpm _ (by simp only; omega))) fun y ⟨hy, hym⟩ => ?_
  simp only at hy
  have hy8 : 0 ≤ y.1 ∧ y.1 ≤ 6 := by simp at hym; omega
  refine so_bind (so_while (b := s_l5Hard_b1 r) (fun n (s : List Con × Int × Int) => s.2.1 = (n : Int) ∧ s.1.length + n ≤ 14 ∧ (∀ c ∈ s.1, c.terms.length ≤ 12) ∧ r.p ≤ s.2.2 ∧ s.2.2 + 41 * n ≤ r.p + 401 + 41 * y.1.toNat)
    (fun s => s.1.length ≤ 14 ∧ (∀ c ∈ s.1, c.terms.length ≤ 12) ∧ r.p ≤ s.2.2 ∧ s.2.2 ≤ r.p + 700) y.1.toNat _ fu (by omega) ⟨by simp only; omega, by simp only; omega, x2, by simp only; omega, by simp only; omega⟩ ?_) ?_
  · rintro n ⟨out, i, p⟩ ⟨a, b, c, d, e⟩
    simp only at a b c d e
    subst a
    rw [s_l5Hard_b1]
    refine so_ite (fun hn => ?_) fun hn => ?_
    · have hn := of_decide_eq_true hn
      refine so_bind (draw_ok ⟨r.b, p⟩ 4 (by omega) hb (by simp only; omega) (by unfold PM; simp only; omega)) fun z ⟨z1, z2, z3⟩ => ?_
      simp only at z2 z3
      refine so_bind (total_ok _) fun t _ => ?_
      refine so_bind (pick_ok ⟨r.b, z.2⟩ _ hb (by simp only; omega) (hpm _ (by simp only; omega))) fun u ⟨hu, _, _⟩ => ?_
      simp only at hu
      refine so_bind (so_app (P := fun o => o = out ++ [({ terms := z.1.terms, bound := i64 (t - u.1) } : Con)]) (by simp; omega) rfl) fun o ho => so_some (.inl ?_)
      subst ho
      refine ⟨_, n - 1, rfl, by omega, ?_, ?_, ?_, ?_, ?_⟩
      · show i64 ((n : Int) - 1) = _
        rw [i64_id (by omega) (by omega)]; omega
      · simp; omega
      · intro c' hc'
        rcases List.mem_append.1 hc' with h | h
        · exact c c' h
        · rw [List.mem_singleton] at h; subst h; exact z1
      · show r.p ≤ u.2; omega
      · show u.2 + 41 * ((n - 1 : Nat) : Int) ≤ _; omega
    · simp only [decide_eq_true_eq] at hn
      exact so_some (.inr ⟨_, rfl, by simp only; omega, c, d, by simp only; omega⟩)
  · rintro j ⟨⟨out, i, p⟩, rfl, h⟩
    exact so_some h
theorem values_ok (r : Rd) (hb : r.b.length ≤ 2000) (h0 : 0 ≤ r.p) (h1 : r.p + 100 ≤ PM) : So (s_l1Values r) fun o => o.1.length ≤ 12 ∧ r.p ≤ o.2 ∧ o.2 ≤ r.p + 13 := by
  unfold PM at h1
  have hpm : ∀ p, p ≤ r.p + 99 → p ≤ PM := fun p hp => by unfold PM; omega
  unfold s_l1Values
  rw [show cntF 0 12 = some 12 from cntF_nat (n := 12) (by omega), Option.bind_some]
  refine so_bind (so_count (b := s_l1Values_b1 r) (fun i (s : List Bool × Int) => s.1.length = i ∧ s.2 = r.p + i) 12 ([], r.p) ⟨rfl, by simp⟩ ?_) ?_
  · rintro i ⟨out, p⟩ hi ⟨a, b⟩
    simp only at a b
    rw [s_l1Values_b1]
    refine so_bind (pick_ok ⟨r.b, p⟩ 2 hb (by simp only; omega) (hpm _ (by simp only; omega))) fun x ⟨hx, _, _⟩ => ?_
    simp only at hx
    refine so_bind (so_app (P := fun o => o.length = out.length + 1) (by simp; omega) (by simp)) fun o ho => ?_
    have ho : o.length = out.length + 1 := ho
    exact so_some ⟨_, rfl, by simp only; omega, by simp only; omega⟩
  · rintro j ⟨⟨out, p⟩, rfl, a, b⟩
    simp only at a b
    refine so_bind (pick_ok ⟨r.b, p⟩ 40 hb (by simp only; omega) (hpm _ (by simp only; omega))) fun x ⟨hx, _, _⟩ => ?_
    simp only at hx
    refine so_ite (fun _ => ?_) fun _ => so_some ⟨by simp only; omega, by simp only; omega, by simp only; omega⟩
    have h2 : sl out 0 11 = some (out.take 11) := sl_pre (i := 11) (by omega)
    rw [h2]
    exact so_some ⟨by simp only [List.length_take]; omega, by simp only; omega, by simp only; omega⟩
theorem drawNext_ok (code : List UInt8) (fu : Nat) (hf : FU ≤ fu) : So (s_DrawNextSolution fu code) fun o => smL' 20 o.1 := by
  have hF := hf
  unfold FU at hF
  unfold s_DrawNextSolution
  refine so_bind (open_ok code) fun r ⟨hb, hp⟩ => ?_
  refine so_bind (hard_ok r fu hf hb (by omega) (by unfold PM; omega)) fun y ⟨y1, y2, y3, y4⟩ => ?_
  refine so_bind (mutateP_ok ⟨r.b, y.2⟩ y.1 (by omega) (fun c hc => by have := y2 c hc; omega) hb (by simp only; omega) (by unfold PM; simp only; omega)) fun z ⟨z1, z2, z3, z4⟩ => ?_
  simp only at z3 z4
  refine so_bind (values_ok ⟨r.b, z.2⟩ hb (by simp only; omega) (by unfold PM; simp only; omega)) fun w ⟨w1, w2, w3⟩ => ?_
  simp only at w2 w3
  refine so_bind (pick_ok ⟨r.b, w.2⟩ 2 hb (by simp only; omega) (by unfold PM; simp only; omega)) fun x _ => ?_
  refine so_bind (P := fun _ => True) (so_ite (fun _ => ?_) fun _ => so_some trivial) fun v _ => so_some ⟨by simp only; omega, z2⟩
  refine so_bind (so_while (b := s_DrawNextSolution_b1) (fun n (s : List Bool × Int) => ∃ i : Nat, s.2 = (i : Int) ∧ i + n = 3) (fun _ => True) 3 _ fu (by omega) ⟨0, rfl, rfl⟩ ?_) ?_
  · rintro n ⟨vs, i⟩ ⟨k, a, b⟩
    simp only at a b
    subst a
    rw [s_DrawNextSolution_b1]
    refine so_ite (fun h => ?_) fun _ => so_some (.inr ⟨_, rfl, trivial⟩)
    simp only [Bool.and_eq_true, decide_eq_true_eq] at h
    refine so_bind (so_idx (P := fun _ => True) (by omega) (by omega) fun _ _ => trivial) fun _ _ => so_some (.inl ⟨_, n - 1, rfl, by omega, k + 1, ?_, by omega⟩)
    show i64 ((k : Int) + 1) = _
    rw [i64_id (by omega) (by omega)]; rfl
  · rintro j ⟨s, rfl, _⟩
    exact so_some trivial
end Go.L
