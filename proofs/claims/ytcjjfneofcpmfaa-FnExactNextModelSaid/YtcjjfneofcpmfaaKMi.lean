/- Marks on numbers, rules, models. -/
import Derived.Test.YtcjjfneofcpmfaaK2
import Derived.Test.YtcjjfneofcpmfaaKM
namespace Go.L
open Go Go.E
set_option linter.unusedVariables false
set_option linter.unusedSimpArgs false
set_option maxRecDepth 100000

theorem mkIntS (xs : List Int) (hl : xs.length ≤ 1048576) (fu : Nat) (hf : FV ≤ fu) (k : Int) (h0 : 0 ≤ k) (hK : k + 1048576 ≤ 9223372036854775806) :
    ∃ k' a', l_markIntS fu xs k = some (k', a') ∧ l_heldIntS a' k = some k' ∧ k ≤ k' ∧ k' ≤ k + 1048576 := by
  obtain ⟨a', k', j, e, _, hch, h1, h2⟩ := mark_all (b := l_markIntS_b1) (fun y k k' => y = k ∧ k' = k + 1 ∧ InI64 (k + 1)) 1 9223372036854775806 (by omega) xs hl
    (fun a k i x hx _ h0 h1 => ⟨k, k + 1, by
      show (if decide ((i : Int) < (a.length : Int)) then _ else _) = _
      rw [mk_lt hx, if_pos rfl, idx_nat, hx, Option.bind_some, i64_id (n := k + 1) (by omega) (by omega)]; rfl, ⟨rfl, rfl, by unfold InI64; omega⟩, by omega, by omega⟩)
    (fun a k i h => by show (if decide ((i : Int) < (a.length : Int)) then _ else _) = _; rw [mk_ge h]; rfl) k fu hf h0 (by omega)
  refine ⟨k', a', ?_, ?_, h1, by omega⟩
  · unfold l_markIntS; rw [e]; rfl
  · unfold l_heldIntS
    rw [chain_range (b := l_heldIntS_b1) (P := fun y k k' => y = k ∧ k' = k + 1 ∧ InI64 (k + 1)) ?_ a' 0 k k' hch]
    · rfl
    · rintro i y k k' ⟨rfl, rfl, hi⟩
      show (if (y != y) then _ else _) = _
      unfold InI64 at hi
      rw [bne_self_eq_false, if_neg (by simp), i64_id (by omega) (by omega)]
theorem mkIntSS (xs : List (List Int)) (hl : xs.length ≤ 1048576) (hel : ∀ x ∈ xs, x.length ≤ 1048576) (fu : Nat) (hf : FV ≤ fu) (k : Int) (h0 : 0 ≤ k) (hK : k + 1099511627776 + 1048576 ≤ 9223372036854775806) :
    ∃ k' a', l_markIntSS fu xs k = some (k', a') ∧ k ≤ k' ∧ k' ≤ k + 1099511627776 := by
  obtain ⟨a', k', j, e, _, hch, h1, h2⟩ := mark_all (b := l_markIntSS_b1 fu) (fun y k k' => True) 1048576 (9223372036854775806 - 1048576) (by omega) xs hl
    (fun a k i x hx hm h0 h1 => by
      obtain ⟨k', y, e, _, h2, h3⟩ := mkIntS x (hel x hm) fu hf k h0 (by omega)
      refine ⟨y, k', ?_, trivial, h2, h3⟩
      show (if decide ((i : Int) < (a.length : Int)) then _ else _) = _
      rw [mk_lt hx, if_pos rfl, idx_nat, hx, Option.bind_some, e, Option.bind_some]; rfl)
    (fun a k i h => by show (if decide ((i : Int) < (a.length : Int)) then _ else _) = _; rw [mk_ge h]; rfl) k fu hf h0 (by omega)
  exact ⟨k', a', by unfold l_markIntSS; rw [e]; rfl, h1, by omega⟩
theorem mkRuleS (xs : List Rule) (hl : xs.length ≤ 1048576) (hel : ∀ x ∈ xs, smallR x) (fu : Nat) (hf : FV ≤ fu) (k : Int) (h0 : 0 ≤ k) (hK : k + 1048576 * 1099516870912 ≤ 9000000000000000000) :
    ∃ k' a', l_markRuleS fu xs k = some (k', a') ∧ k ≤ k' ∧ k' ≤ k + 1048576 * 1099516870912 := by
  obtain ⟨a', k', j, e, _, hch, h1, h2⟩ := mark_all (b := l_markRuleS_b1 fu) (fun y k k' => True) 1099516870912 9000000000000000000 (by omega) xs hl
    (fun a k i x hx hm h0 h1 => by
      obtain ⟨s1, s2, s3, s4⟩ := hel x hm
      obtain ⟨k1, y1, e1, _, p1, q1⟩ := mkIntS x.vars s1 fu hf (k + 1) (by omega) (by omega)
      obtain ⟨k2, y2, e2, _, p2, q2⟩ := mkIntS x.coefs s2 fu hf k1 (by omega) (by omega)
      obtain ⟨k3, y3, e3, p3, q3⟩ := mkIntSS x.rows s3 s4 fu hf (k2 + 1) (by omega) (by omega)
      refine ⟨({ kind := k, vars := y1, coefs := y2, bound := k2, rows := y3 } : Rule), k3, ?_, trivial, by omega, by omega⟩
      have hi := (List.getElem?_eq_some_iff.1 hx).1
      show (if decide ((i : Int) < (a.length : Int)) then _ else _) = _
      rw [mk_lt hx, if_pos rfl, idx_nat, hx, Option.bind_some]
      simp only [Int.toNat_natCast, idx_set_self hx, Option.bind_some, i64_id (n := k + 1) (by omega) (by omega), e1, List.set_set, e2, i64_id (n := k2 + 1) (by omega) (by omega), e3])
    (fun a k i h => by show (if decide ((i : Int) < (a.length : Int)) then _ else _) = _; rw [mk_ge h]; rfl) k fu hf h0 (by omega)
  exact ⟨k', a', by unfold l_markRuleS; rw [e]; rfl, h1, by omega⟩
theorem mkModel (m : Model) (hs : smallM m) (fu : Nat) (hf : FV ≤ fu) (k : Int) (h0 : 0 ≤ k) (hK : k + 1048576 + 1048576 * 1099516870912 ≤ 9000000000000000000) :
    ∃ k' a', l_markModel fu m k = some (k', a') ∧ k ≤ k' ∧ k' ≤ k + 1048576 + 1048576 * 1099516870912 := by
  obtain ⟨k1, y1, e1, _, p1, q1⟩ := mkIntS m.sizes hs.1 fu hf k h0 (by omega)
  obtain ⟨k2, y2, e2, p2, q2⟩ := mkRuleS m.rules hs.2.1 hs.2.2 fu hf k1 (by omega) (by omega)
  exact ⟨k2, _, by unfold l_markModel; rw [e1, Option.bind_some, e2]; rfl, by omega, by omega⟩
end Go.L
