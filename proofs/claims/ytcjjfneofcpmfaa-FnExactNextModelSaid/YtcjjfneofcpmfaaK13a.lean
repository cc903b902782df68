/- Solutions in order: NextModel of both sides. -/
import Derived.Test.YtcjjfneofcpmfaaK6
namespace Go.L
open Go Go.E
set_option linter.unusedVariables false
set_option linter.unusedSimpArgs false
set_option maxRecDepth 100000

def firstN (m : Model) : Nat → List Int → Option (List Int)
  | 0, _ => none
  | k + 1, cs => if solves m cs then some cs else match nextC m.sizes cs with | some t => firstN m k t | none => none
/-- the first solution from some cells on -/
def first (m : Model) (cs : List Int) : Option (List Int) := firstN m (rem m.sizes cs + 1) cs
def nextModel (m : Model) (cells : List Int) : List Int × Bool := if okCells m cells then (match first m cells with | some t => (t, true) | none => ([], false)) else ([], false)
theorem first_yes {m : Model} {cs : List Int} (h : solves m cs = true) : first m cs = some cs := by unfold first; rw [firstN, if_pos h]
theorem first_step {m : Model} {cs t : List Int} (hf : fit m.sizes cs) (h : solves m cs = false) (hn : nextC m.sizes cs = some t) : first m cs = first m t := by
  have := (next_some hf hn).2
  unfold first
  rw [firstN, if_neg (by simp [h]), hn, this]
theorem first_end {m : Model} {cs : List Int} (h : solves m cs = false) (hn : nextC m.sizes cs = none) : first m cs = none := by
  unfold first; rw [firstN, if_neg (by simp [h]), hn]
theorem firstN_spec (m : Model) : ∀ (k : Nat) (cs t : List Int), fit m.sizes cs → firstN m k cs = some t → fit m.sizes t ∧ solves m t = true ∧ rem m.sizes t ≤ rem m.sizes cs
  | 0, _, _, _, h => by cases h
  | k + 1, cs, t, hf, h => by
    rw [firstN] at h
    by_cases hs : solves m cs = true
    · rw [if_pos hs] at h
      injection h with h
      subst h
      exact ⟨hf, hs, Nat.le_refl _⟩
    · rw [if_neg hs] at h
      cases hn : nextC m.sizes cs with
      | none => rw [hn] at h; cases h
      | some u =>
        rw [hn] at h
        obtain ⟨h1, h2⟩ := next_some hf hn
        obtain ⟨a, b, c⟩ := firstN_spec m k u t h1 h
        exact ⟨a, b, by omega⟩
theorem s_nextModel (m : Model) (h : smallM m) (fu : Nat) (hfu : FU ≤ fu) (cells : List Int) (hcl : cells.length ≤ 1048576) : s_NextModel fu m cells = some (nextModel m cells) := by
  unfold s_NextModel nextModel
  rw [s_cells m h fu hfu, Option.bind_some]
  cases hc : okCells m cells with
  | false => rfl
  | true =>
    obtain ⟨hok, hci⟩ := okCells_parts hc
    obtain ⟨h1, h5, ha, _⟩ := okModel_parts hok
    have hz := cellsIn_fit.1 hci
    simp only [Bool.not_true, Bool.false_eq_true, if_false, if_true]
    rw [app_le (by simp; omega), Option.bind_some, List.nil_append]
    obtain ⟨j, hj, hQ⟩ := while_inv (b := s_NextModel_b1 fu m) (fun k s => (s.2 = true ∧ fit m.sizes s.1 ∧ k = rem m.sizes s.1 + 1 ∧ first m s.1 = first m cells) ∨ (s.2 = false ∧ k = 0 ∧ first m cells = none))
      (fun j => match j with | .nx _ => first m cells = none | .out t => first m cells = some t.1 ∧ t.2 = true)
      (by
        rintro k ⟨cs, more⟩ hI
        simp only at hI
        rcases hI with ⟨rfl, hf, rfl, ht⟩ | ⟨rfl, rfl, ht⟩
        · have hl := fit_len hf
          have hsol := s_solves h hok (cellsIn_fit.2 hf)
          have hnx := s_next m cs hf (by omega) ha fu hfu
          cases hs : solves m cs with
          | true =>
            refine ⟨.out (cs, true), ?_, ?_⟩
            · simp only [s_NextModel_b1, if_true, hsol, Option.bind_some, hs]
            · exact ⟨by rw [← ht, first_yes hs], rfl⟩
          | false =>
            refine ⟨.cont ((match nextC m.sizes cs with | some c => (c, true) | none => (List.replicate cs.length 0, false)).1, (match nextC m.sizes cs with | some c => (c, true) | none => (List.replicate cs.length 0, false)).2), ?_, ?_⟩
            · simp only [s_NextModel_b1, if_true, hsol, Option.bind_some, hs, hnx, Bool.false_eq_true, if_false]
              rfl
            · cases hm : nextC m.sizes cs with
              | some t =>
                obtain ⟨hft, hrt⟩ := next_some hf hm
                exact ⟨rem m.sizes t + 1, by omega, .inl ⟨rfl, hft, rfl, by rw [← ht, first_step hf hs hm]⟩⟩
              | none => exact ⟨0, by omega, .inr ⟨rfl, rfl, by rw [← ht, first_end hs hm]⟩⟩
        · exact ⟨.brk (cs, false), rfl, ht⟩)
      fu (rem m.sizes cells + 1) (cells, true) (.inl ⟨rfl, hz, rfl, rfl⟩) (by have := rem_small hz ha (by omega); unfold FU at hfu; omega)
    rw [hj]
    cases j with
    | nx s => obtain ⟨a, b⟩ := s; simp only at hQ; rw [hQ]; rfl
    | out t => obtain ⟨a, b⟩ := t; simp only at hQ; obtain ⟨h1, h2⟩ := hQ; rw [h1, h2]; rfl
theorem i_nextModel (m : Model) (h : smallM m) (fu : Nat) (hfu : FU ≤ fu) (cells : List Int) (hcl : cells.length ≤ 1048576) : i_NextModel fu m cells = some (nextModel m cells) := by
  unfold i_NextModel nextModel
  rw [i_cells m h, Option.bind_some]
  cases hc : okCells m cells with
  | false => rfl
  | true =>
    obtain ⟨hok, hci⟩ := okCells_parts hc
    obtain ⟨h1, h5, ha, _⟩ := okModel_parts hok
    have hz := cellsIn_fit.1 hci
    have hlz := fit_len hz
    have hemp : ∀ cs : List Int, fit m.sizes cs → List.isEmpty cs = false := fun cs hf => by
      have := fit_len hf
      cases cs with
      | nil => simp at this; omega
      | cons _ _ => rfl
    simp only [Bool.not_true, Bool.false_eq_true, if_false, if_true]
    unfold i_NextModel_i1
    rw [clone_int _ (by omega), Option.bind_some, hemp cells hz]
    simp only [Bool.false_eq_true, if_false, Option.bind_some]
    obtain ⟨j, hj, hQ⟩ := while_inv (b := i_NextModel_b2 fu m) (fun k s => s.2 = [] ∧ fit m.sizes s.1 ∧ k = rem m.sizes s.1 ∧ first m s.1 = first m cells)
      (fun j => match j with | .nx s => first m cells = some s.2 ∧ List.isEmpty s.2 = false | .out t => first m cells = none ∧ t = [])
      (by
        rintro k ⟨cs, g⟩ ⟨hg, hf, rfl, ht⟩
        simp only at hg hf ht
        subst hg
        have hl := fit_len hf
        have hsol := i_solves h hok (cellsIn_fit.2 hf)
        cases hs : solves m cs with
        | true =>
          have hi3 : i_NextModel_i3 m cs [] = some (false, cs) := by
            unfold i_NextModel_i3
            rw [hsol, Option.bind_some, hs]
            simp only [if_true]
            rw [clone_int _ (by omega), Option.bind_some, hemp cs hf]
            simp [hemp cs hf]
          refine ⟨.brk (cs, cs), ?_, by rw [← ht, first_yes hs], hemp cs hf⟩
          show (i_NextModel_i3 m cs []).bind _ = _
          rw [hi3]; rfl
        | false =>
          have hi3 : i_NextModel_i3 m cs [] = some (true, []) := by
            unfold i_NextModel_i3
            rw [hsol, Option.bind_some, hs]
            rfl
          obtain ⟨j, hjl, hw, hj0, hjs⟩ := i_step m.sizes cs hf (by omega) fu hfu (b := i_NextModel_b4 m) (fun _ _ => rfl)
          have hbody : i_NextModel_b2 fu m (cs, []) = (if decide (((j : Int) - 1) < 0) then (some (.out [])) else ((idx (zfrom cs j) ((j : Int) - 1)).bind fun x => some (.cont (((zfrom cs j).set (Int.toNat ((j : Int) - 1)) (i64 (x + 1))), [])))) := by
            show (i_NextModel_i3 m cs []).bind _ = _
            rw [hi3, Option.bind_some]
            simp only [if_true]
            rw [hw, Option.bind_some]
          rw [hbody]
          cases j with
          | zero =>
            refine ⟨.out [], by rw [if_pos (by simp)], by rw [← ht, first_end hs (hj0 rfl)], rfl⟩
          | succ k =>
            obtain ⟨hk, hnx⟩ := hjs k rfl
            obtain ⟨hft, hrt⟩ := next_some hf hnx
            have hb := fit_get hf hk
            have hsz := sizes_get ha (i := k) (by omega)
            have e : (((k + 1 : Nat) : Int) - 1) = (k : Int) := by omega
            rw [e, if_neg (by simp), idx_nat, zfrom_get cs k hk, Option.bind_some, i64_id (by omega) (by omega), Int.toNat_natCast]
            exact ⟨_, rfl, rem m.sizes ((zfrom cs (k + 1)).set k (cs[k] + 1)), by show _ < rem m.sizes cs; omega, rfl, hft, rfl, by rw [← ht, first_step hf hs hnx]⟩)
      fu (rem m.sizes cells) (cells, []) ⟨rfl, hz, rfl, rfl⟩ (by have := rem_small hz ha (by omega); unfold FU at hfu; omega)
    rw [hj]
    cases j with
    | nx s => obtain ⟨a, b⟩ := s; simp only at hQ; obtain ⟨h1, h2⟩ := hQ; rw [h1]; simp [h2]
    | out t => simp only at hQ; obtain ⟨h1, h2⟩ := hQ; rw [h1, h2]; rfl
end Go.L
