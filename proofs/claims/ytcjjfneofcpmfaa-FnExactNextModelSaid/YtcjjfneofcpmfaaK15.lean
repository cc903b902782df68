/- The law FnExactNextModel. -/
import Derived.Test.YtcjjfneofcpmfaaK13a
import Derived.Test.YtcjjfneofcpmfaaKMi
namespace Go.L
open Go Go.E
set_option linter.unusedVariables false
set_option linter.unusedSimpArgs false
set_option maxRecDepth 100000

theorem FnExactNextModel_ok (m : Model) (cells : List Int) (g0 : gModel m) (g2 : gInts cells) : ∃ fu, l_FnExactNextModel fu m cells = some true := by
  refine ⟨FV, ?_⟩
  unfold l_FnExactNextModel
  refine len_law fun hl => sz_law (szModel m 1048576 (by omega) (by omega) (lenM_of g0)) (by omega) fun r _ _ hs => ?_
  have hF : FU ≤ FV := by decide
  obtain ⟨k1, m', e1, p1, q1⟩ := mkModel m hs FV (Nat.le_refl _) 1 (by omega) (by omega)
  obtain ⟨k2, c', e2, _, p2, q2⟩ := mkIntS cells hl FV (Nat.le_refl _) k1 (by omega) (by omega)
  have hb : (nextModel m cells).1.length ≤ 1048576 := by
    unfold nextModel
    split
    · rename_i hc
      obtain ⟨hok, hci⟩ := okCells_parts hc
      obtain ⟨_, p5, _⟩ := okModel_parts hok
      cases hf1 : first m cells with
      | none => simp
      | some t =>
        have := fit_len (firstN_spec m _ cells t (cellsIn_fit.1 hci) hf1).1
        simp only
        omega
    · simp
  obtain ⟨k3, b', e3, h3, p3, q3⟩ := mkIntS (nextModel m cells).1 hb FV (Nat.le_refl _) 1 (by omega) (by omega)
  simp only [toModel m hs, toIntS cells hl, s_nextModel m hs FV hF cells hl, i_nextModel m hs FV hF cells hl, eqModel, eqIntS, e1, e2, e3, h3, Option.bind_some]
  have n2 : decide (k2 < 0) = false := by simp; omega
  have n3 : decide (k3 < 0) = false := by simp; omega
  simp [n2, n3]
end Go.L
