/- Drawn proofs; the laws of proofs. -/
import Derived.Test.YtiodhgbfceahfaaK30
import Derived.Test.YtiodhgbfceahfaaK35
namespace Go.L
open Go Go.E
set_option linter.unusedVariables false
set_option linter.unusedSimpArgs false
set_option maxRecDepth 100000
def smS (k : Nat) (steps : List Step) : Prop := steps.length ≤ k ∧ ∀ s ∈ steps, s.given.terms.length ≤ 12
def smL (k : Nat) (list : List Con) : Prop := list.length ≤ k ∧ ∀ c ∈ list, c.terms.length ≤ 103
theorem smL_ML {k : Nat} {list : List Con} (h : smL k list) : lensC list := fun c hc => by have := h.2 c hc; unfold ML; omega
theorem smS_lens {k : Nat} {steps : List Step} (h : smS k steps) : lens steps := fun s hs => by have := h.2 s hs; omega
theorem stepDraw_ok (r : Rd) (n : Int) (hb : r.b.length ≤ 2000) (h0 : 0 ≤ r.p) (h1 : r.p + 200 ≤ PM) : So (s_l4Step r n) fun o => o.1.given.terms.length ≤ 12 ∧ r.p ≤ o.2 ∧ o.2 ≤ r.p + 50 := by
  unfold PM at h1
  have hpm : ∀ p, p ≤ r.p + 199 → p ≤ PM := fun p hp => by unfold PM; omega
  unfold s_l4Step
  refine so_bind (num_ok r _ (by simp) hb h0 (hpm _ (by omega))) fun x ⟨hx, _⟩ => so_ite (fun _ => ?_) fun _ => so_ite (fun _ => ?_) fun _ => ?_
  · refine so_bind (num_ok ⟨r.b, x.2⟩ _ (by simp) hb (by simp only; omega) (hpm _ (by simp only; omega))) fun y ⟨hy, _⟩ => so_some ?_
    simp only at hy
    exact ⟨by simp, by simp only; omega, by simp only; omega⟩
  · refine so_bind (draw_ok ⟨r.b, x.2⟩ 4 (by omega) hb (by simp only; omega) (by unfold PM; simp only; omega)) fun y ⟨a, b, c⟩ => so_some ?_
    simp only at b c
    exact ⟨a, by simp only; omega, by simp only; omega⟩
  · refine so_bind (pick_ok ⟨r.b, x.2⟩ _ hb (by simp only; omega) (hpm _ (by simp only; omega))) fun y ⟨hy, _, _⟩ => ?_
    simp only at hy
    refine so_bind (P := fun (o : Int × Int) => r.p ≤ o.1 ∧ o.1 ≤ r.p + 4) (so_ite (fun _ => ?_) fun _ => ?_) ?_
    · refine so_bind (pick_ok ⟨r.b, y.2⟩ _ hb (by simp only; omega) (hpm _ (by simp only; omega))) fun z ⟨hz, _, _⟩ => so_some ?_
      simp only at hz
      exact ⟨by simp only; omega, by simp only; omega⟩
    · refine so_bind (P := fun _ => True) (so_ite (fun _ => so_some trivial) fun _ => so_some trivial) fun t _ => ?_
      refine so_bind (P := fun (o : Int × Int) => r.p ≤ o.1 ∧ o.1 ≤ r.p + 4) (so_ite (fun _ => ?_) fun _ => ?_) fun o ho => so_some ho
      · refine so_bind (num_ok ⟨r.b, y.2⟩ _ (by simp) hb (by simp only; omega) (hpm _ (by simp only; omega))) fun z ⟨hz, _⟩ => so_some ?_
        simp only at hz
        exact ⟨by simp only; omega, by simp only; omega⟩
      · refine so_bind (P := fun (o : Int × Int) => r.p ≤ o.1 ∧ o.1 ≤ r.p + 4) (so_ite (fun _ => ?_) fun _ => so_some ⟨by simp only; omega, by simp only; omega⟩) fun o ho => so_some ho
        refine so_bind (pick_ok ⟨r.b, y.2⟩ _ hb (by simp only; omega) (hpm _ (by simp only; omega))) fun z ⟨hz, _, _⟩ => so_some ?_
        simp only at hz
        exact ⟨by simp only; omega, by simp only; omega⟩
    · rintro ⟨p, b⟩ ⟨q0, q1⟩
      simp only at q0 q1
      exact so_some ⟨by simp, by simp only; omega, by simp only; omega⟩
theorem smS_snoc {k : Nat} {steps : List Step} {s : Step} (h : smS k steps) (hs : s.given.terms.length ≤ 12) : smS (k + 1) (steps ++ [s]) := by
  refine ⟨by simp; exact h.1, fun x hx => ?_⟩
  rcases List.mem_append.1 hx with hx | hx
  · exact h.2 x hx
  · rw [List.mem_singleton] at hx; subst hx; exact hs
theorem random_ok (r : Rd) (fu : Nat) (hf : FU ≤ fu) {list : List Con} (hl : smL 100 list) (hb : r.b.length ≤ 2000) (h0 : 0 ≤ r.p) (h1 : r.p + 1000 ≤ PM) :
    So (s_l4Random fu r list) fun o => smS 8 o.1 ∧ r.p ≤ o.2 ∧ o.2 ≤ r.p + 500 := by
  unfold PM at h1
  have hf' := hf
  unfold FU at hf'
  have hpm : ∀ p, p ≤ r.p + 999 → p ≤ PM := fun p hp => by unfold PM; omega
  unfold s_l4Random
  refine so_bind (num_ok r _ (by simp) hb h0 (hpm _ (by omega))) fun y ⟨hy, hym⟩ => ?_
  have hy8 : 0 ≤ y.1 ∧ y.1 ≤ 8 := by simp at hym; omega
  refine so_bind (so_while (b := s_l4Random_b1 fu r list) (fun n (s : List Step × Int × Int) => s.2.1 = (n : Int) ∧ n ≤ 8 ∧ smS (8 - n) s.1 ∧ r.p ≤ s.2.2 ∧ s.2.2 + 52 * n ≤ r.p + 1 + 52 * y.1.toNat)
    (fun s => smS 8 s.1 ∧ r.p ≤ s.2.2 ∧ s.2.2 ≤ r.p + 500) y.1.toNat _ fu (by omega) ⟨by simp only; omega, by omega, ⟨by simp, by simp⟩, by simp only; omega, by simp only; omega⟩ ?_) ?_
  · rintro n ⟨out, i, p⟩ ⟨a, a8, b, d, e⟩
    simp only at a b d e
    subst a
    rw [s_l4Random_b1]
    refine so_ite (fun hn => ?_) fun hn => ?_
    · have hn := of_decide_eq_true hn
      have hlen := b.1
      rw [app_le (by simp; omega), Option.bind_some, List.nil_append]
      refine so_bind (stepDraw_ok ⟨r.b, p⟩ _ hb (by simp only; omega) (by unfold PM; simp only; omega)) fun s ⟨s1, s2, s3⟩ => ?_
      simp only at s2 s3
      rw [app_le (by simp; omega), Option.bind_some]
      have hsn := smS_snoc b s1
      rw [s_runP fu hf (smL_ML hl) (smS_lens hsn), Option.bind_some]
      refine so_bind (P := fun (o : Bool × Int) => r.p ≤ o.2 ∧ o.2 ≤ s.2 + 1) (so_ite (fun _ => so_some ⟨by simp only; omega, by simp only; omega⟩) fun _ => ?_) ?_
      · refine so_bind (pick_ok ⟨r.b, s.2⟩ _ hb (by simp only; omega) (hpm _ (by simp only; omega))) fun z ⟨hz, _, _⟩ => so_some ?_
        simp only at hz
        exact ⟨by simp only; omega, by simp only; omega⟩
      · rintro ⟨t, q⟩ ⟨q0, q1⟩
        simp only at q0 q1
        refine so_bind (P := fun (o : List Step) => smS (8 - (n - 1)) o) (so_ite (fun _ => so_some ?_) fun _ => so_some ?_) fun o ho => so_some (.inl ⟨_, n - 1, rfl, by omega, ?_, ?_, ?_, ?_, ?_⟩)
        · rw [show 8 - (n - 1) = 8 - n + 1 by omega]; exact hsn
        · exact ⟨by omega, b.2⟩
        · show i64 ((n : Int) - 1) = _
          rw [i64_id (by omega) (by omega)]; omega
        · omega
        · exact ho
        · simp only; omega
        · show q + 52 * ((n - 1 : Nat) : Int) ≤ _; omega
    · simp only [decide_eq_true_eq] at hn
      exact so_some (.inr ⟨_, rfl, ⟨by have := b.1; simp only; omega, b.2⟩, d, by simp only; omega⟩)
  · rintro j ⟨⟨out, i, p⟩, rfl, h⟩
    exact so_some h
theorem refuted_ok (r : Rd) (fu : Nat) (hf : FU ≤ fu) (hb : r.b.length ≤ 2000) (h0 : 0 ≤ r.p) (h1 : r.p + 3000 ≤ PM) :
    So (s_l4Refuted fu r) fun o => smL 10 o.1 ∧ smS 9 o.2.1 ∧ r.p ≤ o.2.2 ∧ o.2.2 ≤ r.p + 1000 := by
  unfold PM at h1
  have hpm : ∀ p, p ≤ r.p + 2999 → p ≤ PM := fun p hp => by unfold PM; omega
  unfold s_l4Refuted
  refine so_bind (problem_ok r fu hf hb h0 (by unfold PM; omega)) fun x ⟨x1, x2, x3, x4⟩ => ?_
  refine so_bind (pick_ok ⟨r.b, x.2⟩ _ hb (by simp only; omega) (hpm _ (by simp only; omega))) fun y ⟨hy, _, _⟩ => ?_
  simp only at hy
  rw [app_le (by simp; omega), Option.bind_some, app_le (by simp; omega), Option.bind_some]
  generalize hL : x.1 ++ [_] ++ [_] = L
  have hLs : smL 10 L := by
    subst hL
    refine ⟨by simp; omega, fun c hc => ?_⟩
    simp at hc
    rcases hc with h | h | h
    · have := x2 c h; omega
    · subst h; simp
    · subst h; simp
  have hLn : 2 ≤ L.length := by subst hL; simp
  have hl10 := hLs.1
  have e1 : sl L 0 (i64 ((L.length : Int) - 2)) = some (L.take (L.length - 2)) := by
    have := sl_pre (xs := L) (i := L.length - 2) (by omega)
    rw [i64_id (by omega) (by omega), ← this]
    congr 1
    omega
  rw [e1, Option.bind_some]
  have hT : smL 100 (L.take (L.length - 2)) := ⟨by simp; omega, fun c hc => hLs.2 c (List.mem_of_mem_take hc)⟩
  refine so_bind (random_ok ⟨r.b, y.2⟩ fu hf hT hb (by simp only; omega) (by unfold PM; simp only; omega)) fun z ⟨z1, z2, z3⟩ => ?_
  simp only at z2 z3
  rw [s_runP fu hf (smL_ML hLs) (smS_lens z1), Option.bind_some]
  refine so_bind (P := fun (o : List Step) => smS 8 o) (so_ite (fun _ => so_some ⟨by simp, by simp⟩) fun _ => so_some z1) fun steps hst => ?_
  refine so_bind (pick_ok ⟨r.b, z.2⟩ _ hb (by simp only; omega) (hpm _ (by simp only; omega))) fun w ⟨hw, _, _⟩ => ?_
  simp only at hw
  have hst1 := hst.1
  refine so_ite (fun _ => ?_) fun _ => ?_
  · rw [app_le (by simp; omega), Option.bind_some]
    exact so_some ⟨hLs, smS_snoc hst (by simp), by simp only; omega, by simp only; omega⟩
  · rw [app_le (by simp; omega), Option.bind_some]
    exact so_some ⟨hLs, smS_snoc hst (by simp), by simp only; omega, by simp only; omega⟩
theorem pair_ok (r : Rd) (fu : Nat) (hf : FU ≤ fu) (hb : r.b.length ≤ 2000) (h0 : 0 ≤ r.p) (h1 : r.p + 5000 ≤ PM) :
    So (s_l4Pair fu r) fun o => smL 10 o.1 ∧ smS 9 o.2.1 ∧ r.p ≤ o.2.2 ∧ o.2.2 ≤ r.p + 1500 := by
  unfold PM at h1
  have hpm : ∀ p, p ≤ r.p + 4999 → p ≤ PM := fun p hp => by unfold PM; omega
  unfold s_l4Pair
  refine so_bind (pick_ok r _ hb h0 (hpm _ (by omega))) fun x ⟨hx, _, _⟩ => so_ite (fun _ => ?_) fun _ => ?_
  · refine so_bind (refuted_ok ⟨r.b, x.2⟩ fu hf hb (by simp only; omega) (by unfold PM; simp only; omega)) fun y ⟨y1, y2, y3, y4⟩ => so_some ⟨y1, y2, ?_, ?_⟩
    · simp only at y3 ⊢; omega
    · simp only at y4 ⊢; omega
  · refine so_bind (problem_ok ⟨r.b, x.2⟩ fu hf hb (by simp only; omega) (by unfold PM; simp only; omega)) fun y ⟨y1, y2, y3, y4⟩ => ?_
    simp only at y3 y4
    refine so_bind (mutateP_ok ⟨r.b, y.2⟩ y.1 (by omega) (fun c hc => by have := y2 c hc; omega) hb (by simp only; omega) (by unfold PM; simp only; omega)) fun z ⟨z1, z2, z3, z4⟩ => ?_
    simp only at z3 z4
    refine so_bind (random_ok ⟨r.b, z.2⟩ fu hf ⟨by omega, z2⟩ hb (by simp only; omega) (by unfold PM; simp only; omega)) fun w ⟨w1, w2, w3⟩ => so_some ⟨⟨by simp only; omega, z2⟩, ⟨by have := w1.1; simp only; omega, w1.2⟩, ?_, ?_⟩
    · simp only at w2 ⊢; omega
    · simp only at w3 ⊢; omega
theorem drawTrim_ok (code : List UInt8) (fu : Nat) (hf : FU ≤ fu) : So (s_DrawTrimProof fu code) fun o => smL 10 o.1 ∧ smS 9 o.2 := by
  unfold s_DrawTrimProof
  refine so_bind (open_ok code) fun r ⟨hb, hp⟩ => so_bind (pick_ok r _ hb (by omega) (by unfold PM; omega)) fun y ⟨hy, _, _⟩ => so_ite (fun _ => ?_) fun _ => ?_
  · exact so_bind (pair_ok ⟨r.b, y.2⟩ fu hf hb (by simp only; omega) (by unfold PM; simp only; omega)) fun x ⟨x1, x2, _, _⟩ => so_some ⟨x1, x2⟩
  · exact so_bind (refuted_ok ⟨r.b, y.2⟩ fu hf hb (by simp only; omega) (by unfold PM; simp only; omega)) fun x ⟨x1, x2, _, _⟩ => so_some ⟨x1, x2⟩
theorem drawProb_ok (code : List UInt8) (fu : Nat) (hf : FU ≤ fu) : So (s_DrawProblemValid fu code) fun o => o.length ≤ 8 ∧ ∀ c ∈ o, c.terms.length ≤ 106 := by
  unfold s_DrawProblemValid
  refine so_bind (open_ok code) fun r ⟨hb, hp⟩ => ?_
  refine so_bind (problem_ok r fu hf hb (by omega) (by unfold PM; omega)) fun y ⟨y1, y2, y3, y4⟩ => ?_
  refine so_bind (mutateP_ok ⟨r.b, y.2⟩ y.1 (by omega) (fun c hc => by have := y2 c hc; omega) hb (by simp only; omega) (by unfold PM; simp only; omega)) fun z ⟨z1, z2, z3, z4⟩ => ?_
  simp only at z3 z4
  refine so_bind (mutateP2_ok ⟨r.b, z.2⟩ z.1 (by omega) z2 hb (by simp only; omega) (by unfold PM; simp only; omega)) fun w ⟨w1, w2, w3, w4⟩ => so_some ⟨by omega, w2⟩
end Go.L
