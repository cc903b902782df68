/- The variables of cells: the law. -/
import Derived.Test.YteojddfaiomfmaaL7
namespace Go.L
open Go Go.E
set_option linter.unusedVariables false

theorem gsum_bound (xs : List Int) (h : xs.all qSize = true) : 0 ≤ gsum xs ∧ gsum xs ≤ 4 * xs.length := by
  have : ∀ i, i ≤ xs.length → 0 ≤ gsum (xs.take i) ∧ gsum (xs.take i) ≤ 4 * i := by
    intro i
    induction i with
    | zero => intro _; simp [gsum]
    | succ i ih =>
      intro hi
      have hb := qSize_iff.1 (List.all_eq_true.1 h xs[i] (List.getElem_mem (by omega)))
      have := ih (by omega)
      rw [gsum_next xs i (by omega)]
      omega
  have h2 := this xs.length (Nat.le_refl _)
  rwa [List.take_length] at h2
theorem take_all (xs : List Int) (i : Nat) (h : xs.all qSize = true) : (xs.take i).all qSize = true := by
  rw [List.all_eq_true] at h ⊢
  exact fun x hx => h x (List.mem_of_mem_take hx)
theorem s_var (m : Model) (c : Nat) (v : Int) (hc : c ≤ m.sizes.length) (h5 : m.sizes.length ≤ 5) (ha : m.sizes.all qSize = true) (hv : 0 ≤ v ∧ v ≤ 3) : Ev (fun fu => s_l7Var fu m (c : Int) v) (1 + v + gsum (m.sizes.take c)) := by
  unfold s_l7Var
  rw [i64_id (n := 1 + v) (by omega) (by omega)]
  obtain ⟨j, hj, hQ⟩ := evw_loop (b := fun _ => s_l7Var_b1 m (c : Int)) (fun n s => ∃ i : Nat, n = c - i ∧ i ≤ c ∧ s.2 = (i : Int) ∧ s.1 = 1 + v + gsum (m.sizes.take i))
    (fun j => j = .nx (1 + v + gsum (m.sizes.take c), (c : Int))) (by
      rintro n ⟨k, w⟩ ⟨i, rfl, hi, hw, hk⟩
      simp only at hw hk
      subst hw
      rcases Nat.lt_or_ge i c with hlt | hge
      · have hil : i < m.sizes.length := by omega
        have hb := qSize_iff.1 (List.all_eq_true.1 ha m.sizes[i] (List.getElem_mem hil))
        have hg := gsum_bound _ (take_all m.sizes i ha)
        have hl : (m.sizes.take i).length ≤ 5 := by simp; omega
        refine ⟨.cont (k + m.sizes[i] + 1, ((i + 1 : Nat) : Int)), Ev.of fun fu => ?_, _, ?_, i + 1, rfl, hlt, rfl, ?_⟩
        · show (if _ then _ else _) = _
          rw [if_pos (by simp; omega), idx_lt hil, Option.bind_some, i64s (n := c) hlt (by omega), i64_id (n := k + m.sizes[i]) (by omega) (by omega), i64_id (by omega) (by omega)]
        · omega
        · rw [gsum_next _ _ hil]; show k + m.sizes[i] + 1 = _; omega
      · obtain rfl : i = c := by omega
        refine ⟨.brk (k, (i : Int)), Ev.of fun fu => ?_, by rw [hk]⟩
        show (if _ then _ else _) = _
        rw [if_neg (by simp)]) c (1 + v, 0) ⟨0, by omega, by omega, rfl, by simp [gsum]⟩
  subst hQ
  exact hj.ev.bind (Ev.ret _)
theorem i_var (m : Model) (c : Nat) (v : Int) (hc : c ≤ m.sizes.length) (h5 : m.sizes.length ≤ 5) (ha : m.sizes.all qSize = true) (hv : 0 ≤ v ∧ v ≤ 3) : i_Model_boolVar m (c : Int) v = some (1 + v + gsum (m.sizes.take c)) := by
  unfold i_Model_boolVar
  rw [sl_pre hc, Option.bind_some, i64_id (n := 1 + v) (by omega) (by omega)]
  have hal := take_all m.sizes c ha
  have hl : (m.sizes.take c).length ≤ 5 := by simp; omega
  generalize m.sizes.take c = xs at *
  obtain ⟨j, hj, hQ⟩ := range_loop (b := i_Model_boolVar_b1) (fun i rest k => xs.drop i = rest ∧ k = 1 + v + gsum (xs.take i)) (fun j => j = .nx (1 + v + gsum xs))
    (by
      rintro i k ⟨hd, hk⟩
      rw [List.drop_eq_nil_iff] at hd
      rw [List.take_of_length_le hd] at hk
      rw [hk])
    (by
      rintro i x rest k ⟨hd, hk⟩
      have hx := drop_idx hd
      have hi : i < xs.length := by rw [idx_nat] at hx; exact (List.getElem?_eq_some_iff.1 hx).1
      have hxe : x = xs[i] := by rw [idx_lt hi] at hx; injection hx with hx; exact hx.symm
      subst hxe
      have hb := qSize_iff.1 (List.all_eq_true.1 hal xs[i] (List.getElem_mem hi))
      have hg := gsum_bound _ (take_all xs i hal)
      have hl2 : (xs.take i).length ≤ 5 := by simp; omega
      refine ⟨.cont (k + (xs[i] + 1)), ?_, drop_next hd, by rw [gsum_next _ _ hi]; omega⟩
      simp only [i_Model_boolVar_b1]
      rw [i64_id (n := xs[i] + 1) (by omega) (by omega), i64_id (by omega) (by omega)]) xs 0 (1 + v) ⟨rfl, by simp [gsum]⟩
  rw [hj, hQ]
  rfl
theorem okModel_parts {m : Model} (h : okModel m = true) : 1 ≤ m.sizes.length ∧ m.sizes.length ≤ 5 ∧ m.sizes.all qSize = true ∧ m.rules.length ≤ 8 ∧ gsum m.sizes ≤ 12 ∧ m.rules.all (okRule m.sizes.length) = true := by
  unfold okModel at h
  split at h
  · cases h
  · rename_i hc
    simp at hc
    rw [Bool.and_eq_true] at h
    exact ⟨by omega, by omega, h.1, by omega, by omega, h.2⟩
/-- what BoolVar answers -/
def gBoolVar (m : Model) (c v : Int) : Int :=
  if okModel m = true ∧ 0 ≤ c ∧ c < (m.sizes.length : Int) ∧ 0 ≤ v ∧ v ≤ m.sizes.getD c.toNat 0 then 1 + v + gsum (m.sizes.take c.toNat) else 0
theorem bool_var (m : Model) (h : lenM m) (c v : Int) : ∃ r, Ev (fun fu => s_BoolVar fu m c v) r ∧ i_BoolVar m c v = some r := by
  unfold s_BoolVar i_BoolVar
  rw [i_model m h, Option.bind_some]
  cases hok : okModel m with
  | false =>
    refine ⟨0, ?_, rfl⟩
    have := s_model m h
    rw [hok] at this
    exact this.bind (Ev.of fun fu => rfl)
  | true =>
    have hs := s_model m h
    rw [hok] at hs
    obtain ⟨h1, h5, ha, _⟩ := okModel_parts hok
    rw [i64_id (n := (m.sizes.length : Int) - 1) (by omega) (by omega), within_eq]
    by_cases hc : 0 ≤ c ∧ c < (m.sizes.length : Int)
    · obtain ⟨k, rfl⟩ : ∃ k : Nat, c = (k : Int) := ⟨c.toNat, by omega⟩
      have hk : k < m.sizes.length := by omega
      have hb := qSize_iff.1 (List.all_eq_true.1 ha m.sizes[k] (List.getElem_mem hk))
      have e1 : (decide (0 ≤ (k : Int)) && decide ((k : Int) ≤ (m.sizes.length : Int) - 1)) = true := by simp; omega
      rw [e1, idx_lt hk]
      by_cases hv : 0 ≤ v ∧ v ≤ m.sizes[k]
      · refine ⟨1 + v + gsum (m.sizes.take k), ?_, ?_⟩
        · have e2 : ((((!true) || (decide ((k : Int) < 0))) || (decide ((k : Int) ≥ (m.sizes.length : Int)))) || (decide (v < 0))) = false := by simp; omega
          refine hs.bind ?_
          refine (Ev.of_const (x := false) ?_).bind (Ev.ite (fun h => nomatch h) fun _ => (s_var m k v (by omega) h5 ha (by omega)).bind (Ev.ret _))
          rw [e2, if_neg Bool.false_ne_true]
          simp; omega
        · have e3 : (decide (0 ≤ v) && decide (v ≤ m.sizes[k])) = true := by simp; omega
          simp only [within_eq, Option.bind_some, e3, i_var m k v (by omega) h5 ha (by omega)]
          rfl
      · refine ⟨0, ?_, ?_⟩
        · refine hs.bind ?_
          refine (Ev.of_const (x := true) ?_).bind (Ev.ret _)
          by_cases hv0 : v < 0
          · rw [if_pos (by simp; omega)]
          · have e2 : ((((!true) || (decide ((k : Int) < 0))) || (decide ((k : Int) ≥ (m.sizes.length : Int)))) || (decide (v < 0))) = false := by simp; omega
            rw [e2, if_neg Bool.false_ne_true]
            simp; omega
        · have e3 : (decide (0 ≤ v) && decide (v ≤ m.sizes[k])) = false := by simp; omega
          simp only [within_eq, Option.bind_some, e3]
          rfl
    · refine ⟨0, ?_, ?_⟩
      · refine hs.bind ?_
        refine (Ev.of_const (x := true) ?_).bind (Ev.ret _)
        rw [if_pos (by simp; omega)]
      · have e1 : (decide (0 ≤ c) && decide (c ≤ (m.sizes.length : Int) - 1)) = false := by simp; omega
        simp only [e1]
        rfl
theorem BoolVar_ok (m : Model) (c v : Int) (g0 : gModel m) (g1 : InI64 c) (g2 : InI64 v) : ∃ fu, l_FnExactBoolVar fu m c v = some true := by
  have hl := lenM_of g0
  obtain ⟨r, hr, ho⟩ := szModel m 1048576 (by omega) (by omega) hl
  refine Ev.get ?_
  unfold l_FnExactBoolVar
  refine hr.bind ?_
  rcases ho with hn | ⟨hp, _, hs⟩
  · exact Ev.ite (fun _ => Ev.ret _) fun hc => absurd hc (by simpa using hn)
  refine Ev.ite (fun hc => Ev.ret _) fun _ => ?_
  obtain ⟨x, h1, h2⟩ := bool_var m hl c v
  have hm := toModel m hs
  refine hm.bind (h1.bind (hm.bind ((Ev.of_const h2).bind ?_)))
  refine Ev.ite (fun hc => by simp at hc) fun _ => hm.bind ((eqModel m hl).bind ?_)
  exact Ev.ite (fun hc => by simp at hc) fun _ => Ev.ret _
end Go.L
