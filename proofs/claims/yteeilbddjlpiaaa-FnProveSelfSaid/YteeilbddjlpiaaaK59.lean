/- Drawn searches answer, and what they draw is small. -/
import Derived.Test.YteeilbddjlpiaaaK58
import Derived.Test.YteeilbddjlpiaaaK32
namespace Go.L
open Go Go.E
set_option linter.unusedVariables false
set_option linter.unusedSimpArgs false
set_option maxRecDepth 100000
def smL' (k : Nat) (list : List Con) : Prop := list.length ≤ k ∧ ∀ c ∈ list, c.terms.length ≤ 103
theorem smL'_ML {k : Nat} {list : List Con} (h : smL' k list) : ∀ c ∈ list, c.terms.length ≤ ML := fun c hc => by have := h.2 c hc; unfold ML; omega
theorem fuel_ok (r : Rd) (hb : r.b.length ≤ 2000) (h0 : 0 ≤ r.p) (h1 : r.p + 100 ≤ PM) : So (s_l5Fuel r) fun o => -1 ≤ o.1 ∧ o.1 ≤ 2001 := by
  unfold s_l5Fuel
  refine so_bind (num_ok r _ (by simp) hb h0 (by omega)) fun x ⟨_, hx⟩ => so_some ?_
  simp at hx ⊢
  omega
theorem drawProve_ok (code : List UInt8) (fu : Nat) (hf : FU ≤ fu) : So (s_DrawProveConstraint fu code) fun o => smL' 20 o.1 ∧ o.2.1.terms.length ≤ 104 := by
  unfold s_DrawProveConstraint
  refine so_bind (open_ok code) fun r ⟨hb, hp⟩ => ?_
  have hpm : ∀ p, p ≤ r.p + 4999 → p ≤ PM := fun p hp => by unfold PM; omega
  refine so_bind (problem_ok r fu hf hb (by omega) (by unfold PM; omega)) fun y ⟨y1, y2, y3, y4⟩ => ?_
  refine so_bind (mutateP_ok ⟨r.b, y.2⟩ y.1 (by omega) (fun c hc => by have := y2 c hc; omega) hb (by simp only; omega) (by unfold PM; simp only; omega)) fun z ⟨z1, z2, z3, z4⟩ => ?_
  simp only at z3 z4
  refine so_bind (draw_ok ⟨r.b, z.2⟩ 4 (by omega) hb (by simp only; omega) (by unfold PM; simp only; omega)) fun w ⟨w1, w2, w3⟩ => ?_
  simp only at w2 w3
  refine so_bind (mutate_ok ⟨r.b, w.2⟩ w.1 (by omega) hb (by simp only; omega) (by unfold PM; simp only; omega)) fun m ⟨m1, m2, m3⟩ => ?_
  simp only at m2 m3
  refine so_bind (P := fun (o : Bool × Int) => (o.1 = true → 1 < (z.1.length : Int)) ∧ r.p ≤ o.2 ∧ o.2 ≤ m.2 + 1) (so_ite (fun hn => ?_) fun _ => so_some ⟨by simp, by simp only; omega, by simp only; omega⟩) ?_
  · refine so_bind (pick_ok ⟨r.b, m.2⟩ _ hb (by simp only; omega) (hpm _ (by simp only; omega))) fun x ⟨hx, _, _⟩ => so_some ⟨fun _ => by simpa using hn, ?_, ?_⟩
    · simp only at hx ⊢; omega
    · simp only at hx ⊢; omega
  rintro ⟨t, p⟩ ⟨ht, p0, p1⟩
  simp only at ht p0 p1
  refine so_bind (P := fun (o : List Term × Int) => o.1.length ≤ 104) (so_ite (fun hn => ?_) fun _ => so_some (by simp only; omega)) ?_
  · have hn := ht hn
    refine so_bind (so_idx (P := fun (c : Con) => c.terms.length ≤ 103) (by omega) (by omega) z2) fun c hc => ?_
    refine so_bind (so_idx (P := fun (c : Con) => c.terms.length ≤ 103) (by omega) (by omega) z2) fun c' hc' => ?_
    rw [s_add c c' (by unfold ML; omega) (by unfold ML; omega), Option.bind_some]
    refine so_some ?_
    unfold addC
    split
    · unfold normC validC
      split
      · have := normT_len (netF (c.terms ++ c'.terms)) 12
        simp only; omega
      · simp [zeroC]
    · simp [zeroC]
  · rintro ⟨ts, b⟩ hts
    refine so_bind (fuel_ok ⟨r.b, p⟩ hb (by simp only; omega) (by unfold PM; simp only; omega)) fun w hw => so_some ⟨⟨?_, z2⟩, hts⟩
    simp only; omega
end Go.L
