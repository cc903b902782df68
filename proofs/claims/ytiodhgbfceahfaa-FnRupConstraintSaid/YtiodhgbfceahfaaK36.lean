/- Drawn proofs; the laws of proofs. -/
import Derived.Test.YtiodhgbfceahfaaK30
import Derived.Test.YtiodhgbfceahfaaK35
namespace Go.L
open Go Go.E
set_option linter.unusedVariables false
set_option linter.unusedSimpArgs false
set_option maxRecDepth 100000
def smL (k : Nat) (list : List Con) : Prop := list.length ≤ k ∧ ∀ c ∈ list, c.terms.length ≤ 103
theorem smL_ML {k : Nat} {list : List Con} (h : smL k list) : lensC list := fun c hc => by have := h.2 c hc; unfold ML; omega
theorem weak_len (c : Con) (x : Int) : (weakC c x).1.terms.length ≤ c.terms.length := by
  unfold weakC
  split
  · exact List.length_filter_le _ _
  · simp [zeroC]
theorem drawRup_ok (code : List UInt8) (fu : Nat) (hf : FU ≤ fu) : So (s_DrawRupConstraint fu code) fun o => smL 10 o.1 ∧ o.2.terms.length ≤ 104 := by
  unfold s_DrawRupConstraint
  refine so_bind (open_ok code) fun r ⟨hb, hp⟩ => ?_
  have hpm : ∀ p, p ≤ r.p + 4999 → p ≤ PM := fun p hp => by unfold PM; omega
  refine so_bind (problem_ok r fu hf hb (by omega) (by unfold PM; omega)) fun y ⟨y1, y2, y3, y4⟩ => ?_
  refine so_bind (mutateP_ok ⟨r.b, y.2⟩ y.1 (by omega) (fun c hc => by have := y2 c hc; omega) hb (by simp only; omega) (by unfold PM; simp only; omega)) fun z ⟨z1, z2, z3, z4⟩ => ?_
  simp only at z3 z4
  refine so_bind (draw_ok ⟨r.b, z.2⟩ 4 (by omega) hb (by simp only; omega) (by unfold PM; simp only; omega)) fun w ⟨w1, w2, w3⟩ => ?_
  simp only at w2 w3
  refine so_bind (P := fun (o : Bool × Int) => (o.1 = true → 0 < (z.1.length : Int)) ∧ r.p ≤ o.2 ∧ o.2 ≤ w.2 + 1) (so_ite (fun hn => ?_) fun _ => so_some ⟨by simp, by simp only; omega, by simp only; omega⟩) ?_
  · refine so_bind (pick_ok ⟨r.b, w.2⟩ _ hb (by simp only; omega) (hpm _ (by simp only; omega))) fun x ⟨hx, _, _⟩ => so_some ⟨fun _ => by simpa using hn, ?_, ?_⟩
    · simp only at hx ⊢; omega
    · simp only at hx ⊢; omega
  rintro ⟨t, p⟩ ⟨ht, p0, p1⟩
  simp only at ht p0 p1
  refine so_bind (P := fun (o : List Term × Int × Int) => o.1.length ≤ 103 ∧ r.p ≤ o.2.2 ∧ o.2.2 ≤ w.2 + 2) (so_ite (fun hn => ?_) fun _ => so_some ⟨by simp only; omega, by simp only; omega, by simp only; omega⟩) ?_
  · have hn := ht hn
    refine so_bind (so_idx (P := fun (c : Con) => c.terms.length ≤ 103) (by omega) (by omega) z2) fun c hc => ?_
    refine so_bind (pick_ok ⟨r.b, p⟩ _ hb (by simp only; omega) (hpm _ (by simp only; omega))) fun x ⟨hx, _, _⟩ => ?_
    simp only at hx
    rw [s_weak _ _ (by unfold ML; omega), Option.bind_some]
    have := weak_len c (i64 (1 + x.1))
    exact so_some ⟨by simp only; omega, by simp only; omega, by simp only; omega⟩
  · rintro ⟨ts, n, q⟩ ⟨a, b, d⟩
    simp only at a b d
    refine so_bind (mutate_ok ⟨r.b, q⟩ ⟨ts, n⟩ (by simp only; omega) hb (by simp only; omega) (by unfold PM; simp only; omega)) fun x ⟨h1, _, _⟩ => so_some ⟨⟨by simp only; omega, z2⟩, ?_⟩
    simp only at h1 ⊢
    omega
end Go.L
