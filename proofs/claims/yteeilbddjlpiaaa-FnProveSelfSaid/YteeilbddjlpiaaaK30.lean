/- Drawn constraints and problems: the draws answer, and what they draw is small. -/
import Derived.Test.YteeilbddjlpiaaaK7r
import Derived.Test.YteeilbddjlpiaaaK28
namespace Go.L
open Go Go.E
set_option linter.unusedVariables false
set_option linter.unusedSimpArgs false
set_option maxRecDepth 100000
theorem so_countK {σ τ : Type} {b : Nat → σ → Option (Lo σ τ)} (I : Nat → σ → Prop) (n k : Nat) (s : σ) (h0 : I k s) (h : ∀ i s, k ≤ i → i < k + n → I i s → So (b i s) fun o => ∃ s', o = .cont s' ∧ I (i + 1) s') :
    So (countL b n k s) fun j => ∃ s', j = .nx s' ∧ I (k + n) s' := by
  obtain ⟨j, hj, hQ⟩ := count_inv (b := b) I (fun j => ∃ s', j = .nx s' ∧ I (k + n) s') n k (fun s hs => ⟨s, rfl, hs⟩) (fun i s h1 h2 hI => by
    obtain ⟨o, ho, s', rfl, hs'⟩ := h i s h1 h2 hI
    exact ⟨_, ho, hs'⟩) s h0
  exact ⟨j, hj, hQ⟩
theorem total_ok (c : Con) : So (s_l1Total c) fun _ => True := by
  unfold s_l1Total
  refine so_bind (so_range (b := s_l1Total_b1) (fun _ _ => True) c.terms 0 trivial fun i t n _ _ => so_some ⟨_, rfl, trivial⟩) ?_
  rintro j ⟨s, rfl, _⟩
  exact so_some trivial
theorem draw_ok (r : Rd) (most : Nat) (hm : most ≤ 12) (hb : r.b.length ≤ 2000) (h0 : 0 ≤ r.p) (h1 : r.p + 100 ≤ PM) :
    So (s_l1Draw r (most : Int)) fun o => o.1.terms.length ≤ 12 ∧ r.p ≤ o.2 ∧ o.2 ≤ r.p + 40 := by
  unfold PM at h1
  unfold s_l1Draw
  have e : cntF 1 ((most : Int) + 1) = some most := by rw [cntF_of (s := 1) (by omega) (by omega)]; congr 1; omega
  have hpm : ∀ p, p ≤ r.p + 99 → p ≤ PM := fun p hp => by unfold PM; omega
  rw [e, Option.bind_some]
  refine so_bind (so_countK (b := s_l1Draw_b1 r) (fun i (s : Int × List Term) => s.2.length + 1 ≤ i ∧ r.p ≤ s.1 ∧ s.1 + 3 ≤ r.p + 3 * i) most 1 (r.p, []) ⟨by simp, by simp, by simp⟩ ?_) ?_
  · rintro i ⟨p, out⟩ hi0 hi1 ⟨a, b, c⟩
    simp only at a b c
    rw [s_l1Draw_b1]
    refine so_bind (pick_ok ⟨r.b, p⟩ 2 hb (by simp only; omega) (hpm _ (by simp only; omega))) fun x ⟨hx, _, _⟩ => ?_
    simp only at hx
    refine so_bind (P := fun (o : Int × List Term) => o.2.length ≤ i ∧ r.p ≤ o.1 ∧ o.1 ≤ p + 3) (so_ite (fun _ => ?_) fun _ => so_some ⟨by simp only; omega, by simp only; omega, by simp only; omega⟩) ?_
    · refine so_bind (num_ok ⟨r.b, x.2⟩ _ (by simp) hb (by simp only; omega) (hpm _ (by simp only; omega))) fun y ⟨hy, _⟩ => ?_
      simp only at hy
      refine so_bind (pick_ok ⟨r.b, y.2⟩ 2 hb (by simp only; omega) (hpm _ (by simp only; omega))) fun z ⟨hz, _, _⟩ => ?_
      simp only at hz
      refine so_bind (P := fun _ => True) (so_ite (fun _ => so_some trivial) fun _ => so_some trivial) fun l _ => ?_
      refine so_bind (so_app (P := fun o => o.length = out.length + 1) (by simp; omega) (by simp)) fun o ho => ?_
      have ho : o.length = out.length + 1 := ho
      exact so_some ⟨by simp only; omega, by simp only; omega, by simp only; omega⟩
    · rintro ⟨q, o⟩ ⟨h2, h3, h4⟩
      simp only at h2 h3 h4
      exact so_some ⟨_, rfl, by simp only; omega, by simp only; omega, by simp only; omega⟩
  · rintro j ⟨⟨p, out⟩, rfl, a, b, c⟩
    simp only at a b c
    refine so_bind (total_ok _) fun t _ => ?_
    refine so_bind (num_ok ⟨r.b, p⟩ _ (by simp) hb (by simp only; omega) (hpm _ (by simp only; omega))) fun y ⟨hy, _⟩ => ?_
    simp only at hy
    refine so_bind (pick_ok ⟨r.b, y.2⟩ 4 hb (by simp only; omega) (hpm _ (by simp only; omega))) fun z ⟨hz, _, _⟩ => ?_
    simp only at hz
    refine so_bind (P := fun (o : Int × Int) => r.p ≤ o.1 ∧ o.1 ≤ z.2 + 1) (so_ite (fun _ => ?_) fun _ => so_some ⟨by simp only; omega, by simp only; omega⟩) ?_
    · refine so_bind (pick_ok ⟨r.b, z.2⟩ _ hb (by simp only; omega) (hpm _ (by simp only; omega))) fun u ⟨hu, _, _⟩ => so_some ?_
      simp only at hu
      exact ⟨by simp only; omega, by simp only; omega⟩
    · rintro ⟨q, o⟩ ⟨h2, h3⟩
      simp only at h2 h3
      exact so_some ⟨by simp only; omega, by simp only; omega, by simp only; omega⟩
theorem copy_ok (c : Con) (hc : c.terms.length ≤ 4000000) : s_l1Copy c = some c := by
  unfold s_l1Copy
  rw [app_le (by simp; omega)]
  rfl
theorem mutate_ok (r : Rd) (c : Con) (hc : c.terms.length ≤ 1000) (hb : r.b.length ≤ 2000) (h0 : 0 ≤ r.p) (h1 : r.p + 100 ≤ PM) :
    So (s_l1Mutate r c) fun o => o.1.terms.length ≤ c.terms.length + 1 ∧ r.p ≤ o.2 ∧ o.2 ≤ r.p + 2 := by
  unfold PM at h1
  have hpm : ∀ p, p ≤ r.p + 99 → p ≤ PM := fun p hp => by unfold PM; omega
  unfold s_l1Mutate
  rw [copy_ok c (by omega), Option.bind_some]
  refine so_bind (pick_ok r 40 hb h0 (hpm _ (by omega))) fun x ⟨hx, _, _⟩ => ?_
  refine so_bind (P := fun (o : Int × List Term × Int) => o.2.1.length ≤ c.terms.length + 1 ∧ r.p ≤ o.1 ∧ o.1 ≤ r.p + 2) ?_ ?_
  · refine so_ite (fun _ => ?_) fun _ => ?_
    · refine so_bind (num_ok ⟨r.b, x.2⟩ _ (by simp) hb (by simp only; omega) (hpm _ (by simp only; omega))) fun y ⟨hy, _⟩ => so_some ?_
      simp only at hy
      exact ⟨by simp only; omega, by simp only; omega, by simp only; omega⟩
    · refine so_bind (P := fun (o : Int × List Term) => o.2.length ≤ c.terms.length + 1 ∧ r.p ≤ o.1 ∧ o.1 ≤ r.p + 2) ?_ fun o ho => so_some ho
      refine so_ite (fun _ => ?_) fun _ => ?_
      · refine so_bind (P := fun (o : Int × List Term) => o.2.length ≤ c.terms.length + 1 ∧ r.p ≤ o.1 ∧ o.1 ≤ r.p + 2) ?_ fun o ho => so_some ho
        refine so_ite (fun hn => ?_) fun _ => so_some ⟨by simp only; omega, by simp only; omega, by simp only; omega⟩
        have hn := of_decide_eq_true hn
        refine so_bind (num_ok ⟨r.b, x.2⟩ _ (by simp) hb (by simp only; omega) (hpm _ (by simp only; omega))) fun y ⟨hy, _⟩ => ?_
        simp only at hy
        refine so_bind (so_idx (P := fun _ => True) (by omega) (by omega) fun _ _ => trivial) fun z _ => so_some ⟨by simp only [List.length_set]; omega, by simp only; omega, by simp only; omega⟩
      · refine so_bind (P := fun (o : Int × List Term) => o.2.length ≤ c.terms.length + 1 ∧ r.p ≤ o.1 ∧ o.1 ≤ r.p + 2) ?_ fun o ho => so_some ho
        refine so_ite (fun _ => ?_) fun _ => ?_
        · refine so_bind (P := fun (o : Int × List Term) => o.2.length ≤ c.terms.length + 1 ∧ r.p ≤ o.1 ∧ o.1 ≤ r.p + 2) ?_ fun o ho => so_some ho
          refine so_ite (fun hn => ?_) fun _ => so_some ⟨by simp only; omega, by simp only; omega, by simp only; omega⟩
          have hn := of_decide_eq_true hn
          refine so_bind (num_ok ⟨r.b, x.2⟩ _ (by simp) hb (by simp only; omega) (hpm _ (by simp only; omega))) fun y ⟨hy, _⟩ => ?_
          simp only at hy
          have e : i64 ((c.terms.length : Int) - 1) = (c.terms.length : Int) - 1 := i64_id (by omega) (by omega)
          rw [e]
          refine so_bind (so_idx (P := fun _ => True) (by omega) (by omega) fun _ _ => trivial) fun z _ => so_some ⟨by simp only [List.length_set]; omega, by simp only; omega, by simp only; omega⟩
        · refine so_bind (P := fun (o : List Term) => o.length ≤ c.terms.length + 1) (so_ite (fun _ => ?_) fun _ => so_some (by omega)) fun o ho => so_some ⟨ho, by simp only; omega, by simp only; omega⟩
          refine so_bind (so_app (P := fun o => o.length = c.terms.length + 1) (by simp; omega) (by simp)) fun o ho => so_some (by omega)
  · rintro ⟨p, ts, n⟩ ⟨a, b, d⟩
    exact so_some ⟨a, b, d⟩
theorem problem_ok (r : Rd) (fu : Nat) (hf : FU ≤ fu) (hb : r.b.length ≤ 2000) (h0 : 0 ≤ r.p) (h1 : r.p + 600 ≤ PM) :
    So (s_l3Problem fu r) fun o => o.1.length ≤ 8 ∧ (∀ c ∈ o.1, c.terms.length ≤ 12) ∧ r.p ≤ o.2 ∧ o.2 ≤ r.p + 400 := by
  unfold PM at h1
  unfold FU at hf
  have hpm : ∀ p, p ≤ r.p + 599 → p ≤ PM := fun p hp => by unfold PM; omega
  unfold s_l3Problem
  refine so_bind (num_ok r _ (by simp) hb h0 (hpm _ (by omega))) fun x ⟨hx, hxm⟩ => ?_
  refine so_bind (num_ok ⟨r.b, x.2⟩ _ (by simp) hb (by simp only; omega) (hpm _ (by simp only; omega))) fun y ⟨hy, hym⟩ => ?_
  simp only at hy
  obtain ⟨m, hm, hm2⟩ : ∃ m : Nat, x.1 = (m : Int) ∧ m ≤ 12 := by
    simp at hxm
    exact ⟨x.1.toNat, by omega, by omega⟩
  have hy8 : 0 ≤ y.1 ∧ y.1 ≤ 8 := by simp at hym; omega
  refine so_bind (so_while (b := s_l3Problem_b1 r x) (fun n (s : List Con × Int × Int) => s.2.1 = (n : Int) ∧ s.1.length + n = y.1.toNat ∧ (∀ c ∈ s.1, c.terms.length ≤ 12) ∧ r.p ≤ s.2.2 ∧ s.2.2 + 40 * n ≤ r.p + 2 + 40 * y.1.toNat)
    (fun s => s.1.length ≤ 8 ∧ (∀ c ∈ s.1, c.terms.length ≤ 12) ∧ r.p ≤ s.2.2 ∧ s.2.2 ≤ r.p + 400) y.1.toNat _ fu (by omega) ⟨by simp only; omega, by simp, by simp, by simp only; omega, by simp only; omega⟩ ?_) ?_
  · rintro n ⟨out, i, p⟩ ⟨a, b, c, d, e⟩
    simp only at a b c d e
    subst a
    rw [s_l3Problem_b1]
    refine so_ite (fun hn => ?_) fun hn => ?_
    · have hn := of_decide_eq_true hn
      rw [hm]
      refine so_bind (draw_ok ⟨r.b, p⟩ m hm2 hb (by simp only; omega) (by unfold PM; simp only; omega)) fun z ⟨z1, z2, z3⟩ => ?_
      simp only at z2 z3
      refine so_bind (so_app (P := fun o => o = out ++ [z.1]) (by simp; omega) rfl) fun o ho => so_some (.inl ?_)
      subst ho
      refine ⟨_, n - 1, rfl, by omega, ?_, ?_, ?_, ?_, ?_⟩
      · show i64 ((n : Int) - 1) = _
        rw [i64_id (by omega) (by omega)]; omega
      · simp; omega
      · intro c' hc'
        rcases List.mem_append.1 hc' with h | h
        · exact c c' h
        · rw [List.mem_singleton] at h; subst h; exact z1
      · show r.p ≤ z.2; omega
      · show z.2 + 40 * ((n - 1 : Nat) : Int) ≤ _; omega
    · simp only [decide_eq_true_eq] at hn
      exact so_some (.inr ⟨_, rfl, by simp only; omega, c, d, by simp only; omega⟩)
  · rintro j ⟨⟨out, i, p⟩, rfl, h⟩
    exact so_some h
theorem mutateK_ok (k : Nat) (hk : k ≤ 500) (r : Rd) (list : List Con) (hl : list.length ≤ 1000) (hc : ∀ c ∈ list, c.terms.length ≤ k) (hb : r.b.length ≤ 2000) (h0 : 0 ≤ r.p) (h1 : r.p + 300 ≤ PM) :
    So (s_l3Mutate r list) fun o => o.1.length = list.length ∧ (∀ c ∈ o.1, c.terms.length ≤ k + 3) ∧ r.p ≤ o.2 ∧ o.2 ≤ r.p + 10 := by
  unfold PM at h1
  have hpm : ∀ p, p ≤ r.p + 299 → p ≤ PM := fun p hp => by unfold PM; omega
  unfold s_l3Mutate
  rw [app_le (by simp; omega), Option.bind_some, List.nil_append]
  refine so_bind (P := fun (o : Bool × Int) => (o.1 = true → 0 < (list.length : Int)) ∧ r.p ≤ o.2 ∧ o.2 ≤ r.p + 1) (so_ite (fun hn => ?_) fun _ => so_some ⟨by simp, by simp only; omega, by simp only; omega⟩) ?_
  · refine so_bind (pick_ok r 20 hb h0 (hpm _ (by omega))) fun x ⟨hx, _, _⟩ => so_some ⟨fun _ => by simpa using hn, by simp only; omega, by simp only; omega⟩
  rintro ⟨t, p⟩ ⟨ht, p0, p1⟩
  simp only at ht p0 p1
  refine so_bind (P := fun (o : List Con × Int) => o.1.length = list.length ∧ (∀ c ∈ o.1, c.terms.length ≤ k + 3) ∧ r.p ≤ o.2 ∧ o.2 ≤ r.p + 10) (so_ite (fun hn => ?_) fun _ => so_some ⟨rfl, fun c h => by have := hc c h; omega, by simp only; omega, by simp only; omega⟩) fun o ho => so_some ho
  have hn := ht hn
  refine so_bind (pick_ok ⟨r.b, p⟩ _ hb (by simp only; omega) (hpm _ (by simp only; omega))) fun x ⟨hx, hx0, hx1⟩ => ?_
  simp only at hx
  have hx1 := hx1 (by omega)
  refine so_bind (so_idx (P := fun (c : Con) => c.terms.length ≤ k) hx0 hx1 hc) fun c hc' => ?_
  refine so_bind (mutate_ok ⟨r.b, x.2⟩ c (by omega) hb (by simp only; omega) (by unfold PM; simp only; omega)) fun c1 ⟨a1, b1, d1⟩ => ?_
  simp only at b1 d1
  refine so_bind (mutate_ok ⟨r.b, c1.2⟩ c1.1 (by omega) hb (by simp only; omega) (by unfold PM; simp only; omega)) fun c2 ⟨a2, b2, d2⟩ => ?_
  simp only at b2 d2
  refine so_bind (mutate_ok ⟨r.b, c2.2⟩ c2.1 (by omega) hb (by simp only; omega) (by unfold PM; simp only; omega)) fun c3 ⟨a3, b3, d3⟩ => so_some ?_
  simp only at b3 d3
  refine ⟨by simp, fun c' h => ?_, by simp only; omega, by simp only; omega⟩
  rcases List.mem_or_eq_of_mem_set h with h | h
  · have := hc c' h; omega
  · subst h; omega
theorem mutateP_ok (r : Rd) (list : List Con) (hl : list.length ≤ 1000) (hc : ∀ c ∈ list, c.terms.length ≤ 100) (hb : r.b.length ≤ 2000) (h0 : 0 ≤ r.p) (h1 : r.p + 300 ≤ PM) :
    So (s_l3Mutate r list) fun o => o.1.length = list.length ∧ (∀ c ∈ o.1, c.terms.length ≤ 103) ∧ r.p ≤ o.2 ∧ o.2 ≤ r.p + 10 := mutateK_ok 100 (by omega) r list hl hc hb h0 h1
end Go.L
