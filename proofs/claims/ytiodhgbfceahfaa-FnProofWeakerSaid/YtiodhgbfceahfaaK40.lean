/- A trimmed proof is a refutation; the laws of trimming. -/
import Derived.Test.YtiodhgbfceahfaaK39
namespace Go.L
open Go Go.E
set_option linter.unusedVariables false
set_option linter.unusedSimpArgs false
set_option maxRecDepth 100000
/-! the laws -/
theorem i_same_steps (a b : List Step) : i_ProofSame a b = some (decide (a = b)) := by
  unfold i_ProofSame slices_EqualFunc_implStep
  by_cases hl : a.length = b.length
  · rw [if_neg (by simp [hl]), equal_list a b (b := slices_EqualFunc_implStep_b1 b i_ProofSame_1) (fun i x => by
      rw [slices_EqualFunc_implStep_b1]
      congr 1
      funext y
      have e : i_ProofSame_1 x y = some (decide (x = y)) := by
        unfold i_ProofSame_1
        rw [i_same]
        obtain ⟨k1, a1, b1, g1⟩ := x
        obtain ⟨k2, a2, b2, g2⟩ := y
        by_cases h1 : k1 = k2
        · by_cases h2 : a1 = a2
          · by_cases h3 : b1 = b2
            · by_cases h4 : g1 = g2 <;> simp [h1, h2, h3, h4]
            · simp [h1, h2, h3]
          · simp [h1, h2]
        · simp [h1]
      rw [e]
      by_cases h : x = y <;> simp [h]) hl]
    by_cases h : a = b <;> simp [h]
  · rw [if_pos (by simp; omega), decide_eq_false (by intro h; rw [h] at hl; exact hl rfl)]
    rfl
def gC : Con := ⟨[], 1⟩
def rupS : Step := ⟨7, 0, 0, gC⟩
theorem rupS_ref (list : List Con) : refB list [rupS] = true ↔ okProb list = true ∧ rupB list gC = true := by
  have hg : okCon gC = true := by decide
  have hk : keptD (initD list) = list := by unfold keptD initD; exact kept_all list
  have hd : deriveD (initD list) rupS = (gC, rupB list gC) := by
    unfold deriveD
    rw [hk]
    show (gC, okCon gC && rupB list gC) = _
    rw [hg, Bool.true_and]
  have hst : stepD (initD list) rupS = if rupB list gC then some (initD (list ++ [gC])) else none := by
    unfold stepD
    rw [hd, push_init]
    rfl
  have hrun : runL list [rupS] = if rupB list gC then (initD (list ++ [gC]), -1) else (initD list, 0) := by
    unfold runL
    rw [runD, hst]
    cases rupB list gC <;> rfl
  rw [refB_iff, hrun]
  have hf : fitsB list [rupS] = okProb list := by unfold fitsB; simp
  rw [hf]
  cases h : rupB list gC with
  | false => simp
  | true =>
    have : 0 ≤ falseAt (initD (list ++ [gC])) := by
      refine fAt_some _ _ 0 list.length gC (by simp [initD]) (by decide) ?_
      show (List.replicate (list ++ [gC]).length false)[_]? = _
      rw [List.getElem?_replicate_of_lt (by simp)]
    simp [this]
theorem FnProofWeaker_ok (code more : List UInt8) (g0 : code.length ≤ 9223372036854775807 ∧ ∀ x ∈ code, True) (g1 : more.length ≤ 9223372036854775807 ∧ ∀ x ∈ more, True) : ∃ fu, l_FnProofWeaker fu code more = some true := by
  refine ⟨FU, ?_⟩
  unfold l_FnProofWeaker
  split
  · rfl
  obtain ⟨x, hx, h1, h2⟩ := drawTrim_ok code FU fuFU
  have hl := smS_lens h2
  rw [hx, Option.bind_some, i_trim FU fuFU hl, Option.bind_some, s_trim FU fuFU (smL_ML h1) hl, Option.bind_some, i_same_steps]
  simp only [bne_self_eq_false, Bool.false_eq_true, if_false, Option.bind_some, decide_true, Bool.not_true, Bool.false_or, beq_self_eq_true, if_true]
  cases hr : (trimP x.1 x.2).2 with
  | false => simp
  | true =>
    rw [if_neg (by simp)]
    rw [i_refB FU fuFU, Option.bind_some]
    show (if (!refB x.1 [rupS]) then some true else _) = _
    cases hq : refB x.1 [rupS] with
    | false => rfl
    | true =>
      rw [if_neg (by simp)]
      obtain ⟨y, hy, y1, y2⟩ := drawProb_ok more FU fuFU
      have hl10 := h1.1
      rw [hy, Option.bind_some, app_le (by simp; omega), Option.bind_some, List.nil_append, app_le (by omega), Option.bind_some, i_problem, Option.bind_some]
      cases hp : okProb (x.1 ++ y) with
      | false => rfl
      | true =>
        rw [if_neg (by simp), i_refB FU fuFU]
        show ((some (refB (x.1 ++ y) [rupS])).bind _).bind _ = _
        have : refB (x.1 ++ y) [rupS] = true := by
          rw [rupS_ref] at hq ⊢
          exact ⟨hp, rup_mono (okProb_parts hp).1 (by decide) (fun z hz => List.mem_append.2 (.inl hz)) hq.2⟩
        rw [this]
        rfl
end Go.L
