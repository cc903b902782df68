/- The laws on variables, rules and models, domains. -/
import Derived.Test.YteojddfaiomfmaaK4
namespace Go.L
open Go Go.E
set_option linter.unusedVariables false

theorem s_free (m : Model) (h : smallM m) (fu : Nat) (hf : FU ≤ fu) : s_FreeVars fu m = some (freeVars m) := by
  unfold s_FreeVars freeVars
  rw [s_model m h fu hf, Option.bind_some]
  cases hok : okModel m with
  | false => rfl
  | true =>
    obtain ⟨h1, h5, ha, _, hg, _⟩ := okModel_parts hok
    have hb := gsum_bound _ ha
    simp only [s_var m m.sizes.length 0 (Nat.le_refl _) h5 ha (by omega), Option.bind_some, boolVar, List.take_length]
    rw [i64_id (by omega) (by omega)]
    simp; omega
theorem FnExactFreeVars_ok (m : Model) (g0 : gModel m) : ∃ fu, l_FnExactFreeVars fu m = some true := by
  refine ⟨FU, ?_⟩
  unfold l_FnExactFreeVars
  refine sz_law (szModel m 1048576 (by omega) (by omega) (lenM_of g0)) (by omega) fun r _ _ hs => ?_
  simp only [toModel m hs, s_free m hs FU (Nat.le_refl _), i_free m hs, eqModel, Option.bind_some]
  simp
theorem FnExactBoolVar_ok (m : Model) (c v : Int) (g0 : gModel m) (g1 : InI64 c) (g2 : InI64 v) : ∃ fu, l_FnExactBoolVar fu m c v = some true := by
  refine ⟨FU, ?_⟩
  unfold l_FnExactBoolVar
  refine sz_law (szModel m 1048576 (by omega) (by omega) (lenM_of g0)) (by omega) fun r _ _ hs => ?_
  obtain ⟨x, h1, h2⟩ := bool_var m hs FU (Nat.le_refl _) c v
  simp only [toModel m hs, h1, h2, eqModel, Option.bind_some]
  simp
theorem len_law {α : Type} {xs : List α} {k : Option Bool} (hk : xs.length ≤ 1048576 → k = some true) : (if decide ((xs.length : Int) > 1048576) then some true else k) = some true := by
  by_cases h : (xs.length : Int) > 1048576
  · rw [if_pos (by simpa using h)]
  · rw [if_neg (by simpa using h), hk (by omega)]
theorem FnExactRuleHolds_ok (m : Model) (rule : Int) (cells : List Int) (g0 : gModel m) (g1 : InI64 rule) (g2 : gInts cells) : ∃ fu, l_FnExactRuleHolds fu m rule cells = some true := by
  refine ⟨FU, ?_⟩
  unfold l_FnExactRuleHolds
  refine len_law fun hl => sz_law (szModel m 1048576 (by omega) (by omega) (lenM_of g0)) (by omega) fun r _ _ hs => ?_
  simp only [toModel m hs, toIntS cells hl, s_ruleHolds m hs FU (Nat.le_refl _), i_ruleHolds m hs, eqModel, eqIntS, Option.bind_some]
  simp
theorem FnExactSolvesModel_ok (m : Model) (cells : List Int) (g0 : gModel m) (g2 : gInts cells) : ∃ fu, l_FnExactSolvesModel fu m cells = some true := by
  refine ⟨FU, ?_⟩
  unfold l_FnExactSolvesModel
  refine len_law fun hl => sz_law (szModel m 1048576 (by omega) (by omega) (lenM_of g0)) (by omega) fun r _ _ hs => ?_
  simp only [toModel m hs, toIntS cells hl, s_solvesM m hs FU (Nat.le_refl _), i_solvesM m hs, eqModel, eqIntS, Option.bind_some]
  simp
/-! domains -/
theorem szBoolS (a : List Bool) (left : Int) (h0 : 0 ≤ left) (h1 : left ≤ 1048576) (ha : a.length ≤ ML) : ∃ r, l_szBoolS a left = some r ∧ SzOk r left (a.length ≤ 1048576) := sz_len rfl h0 h1 ha
theorem szBoolSS (a : List (List Bool)) (left : Int) (h0 : 0 ≤ left) (h1 : left ≤ 1048576) (ha : a.length ≤ ML) (hel : ∀ x ∈ a, x.length ≤ ML) :
    ∃ r, l_szBoolSS a left = some r ∧ SzOk r left (a.length ≤ 1048576 ∧ ∀ x ∈ a, x.length ≤ 1048576) :=
  sz_list (one := l_szBoolS) rfl (fun _ _ _ => rfl) h0 h1 ha fun x hx l h0 h1 => szBoolS x l h0 h1 (hel x hx)
theorem toBoolS (a : List Bool) (ha : a.length ≤ 1048576) : l_toBoolS a = some a := copy_list (one := some) (b := l_toBoolS_b1) (z := false) rfl (fun _ => rfl) ha (by intros; rfl) fun _ _ => rfl
theorem toBoolSS (a : List (List Bool)) (ha : a.length ≤ 1048576) (hel : ∀ x ∈ a, x.length ≤ 1048576) : l_toBoolSS a = some a :=
  copy_list (one := l_toBoolS) (b := l_toBoolSS_b1) (z := []) rfl (fun _ => rfl) ha (by intros; rfl) fun x hx => toBoolS x (hel x hx)
theorem eqBoolS (a : List Bool) : l_eqBoolS a a = some true :=
  same_list (one := fun x y => some (x == y)) rfl rfl (fun i x hx => by show (idx a (i : Int)).bind _ = _; rw [idx_self hx]; simp) fun _ _ => by simp
theorem eqBoolSS (a : List (List Bool)) : l_eqBoolSS a a = some true :=
  same_list (one := l_eqBoolS) rfl rfl (fun i x hx => by show (idx a (i : Int)).bind _ = _; rw [idx_self hx]; rfl) fun x _ => eqBoolS x
def okDom (m : Model) (d : List (List Bool)) : Bool := okModel m && (((d.length : Int) == (m.sizes.length : Int)) && allFrom (fun i row => (row.length : Int) == m.sizes.getD i 0 + 1) d 0)
theorem s_dom (m : Model) (h : smallM m) (fu : Nat) (hf : FU ≤ fu) (d : List (List Bool)) : s_DomainsValid fu m d = some (okDom m d) := by
  unfold s_DomainsValid okDom
  rw [s_model m h fu hf, Option.bind_some]
  cases hm : okModel m with
  | false => rfl
  | true =>
    obtain ⟨h1, h5, ha, _⟩ := okModel_parts hm
    unfold s_l8Fits
    by_cases hl : d.length = m.sizes.length
    · rw [if_pos rfl, if_neg (by simp [hl]), range_allI (fun i row => (row.length : Int) == m.sizes.getD i 0 + 1) false d]
      · rw [show ((d.length : Int) == (m.sizes.length : Int)) = true from by simp [hl], Bool.true_and, Bool.true_and]
        cases allFrom (fun i row => (row.length : Int) == m.sizes.getD i 0 + 1) d 0 <;> rfl
      · intro i x hx
        have hi := (List.getElem?_eq_some_iff.1 hx).1
        have hb := sizes_get ha (i := i) (by omega)
        show (idx m.sizes (i : Int)).bind _ = _
        rw [idx_lt (by omega), getD_lt (by omega), Option.bind_some, i64_id (by omega) (by omega), bne]
        cases (x.length : Int) == m.sizes[i] + 1 <;> rfl
    · rw [if_pos rfl, if_pos (by simp; omega), show ((d.length : Int) == (m.sizes.length : Int)) = false from by simp; omega]
      rfl
theorem i_dom (m : Model) (h : smallM m) (d : List (List Bool)) : i_DomainsValid m d = some (okDom m d) := by
  unfold i_DomainsValid okDom
  rw [i_model m h, Option.bind_some]
  cases hm : okModel m with
  | false => rfl
  | true =>
    obtain ⟨h1, h5, ha, _⟩ := okModel_parts hm
    by_cases hl : d.length = m.sizes.length
    · rw [if_neg (by simp [hl]), range_allI (fun i x => ((d.getD i []).length : Int) == x + 1) false m.sizes]
      · rw [show ((d.length : Int) == (m.sizes.length : Int)) = true from by simp [hl], Bool.true_and, Bool.true_and]
        have e : allFrom (fun i x => ((d.getD i []).length : Int) == x + 1) m.sizes 0 = allFrom (fun i row => (row.length : Int) == m.sizes.getD i 0 + 1) d 0 := by
          rw [Bool.eq_iff_iff, allFrom_iff, allFrom_iff]
          constructor
          · intro h i row hr
            have hi := (List.getElem?_eq_some_iff.1 hr).1
            have := h i m.sizes[i] (List.getElem?_eq_getElem (by omega))
            obtain rfl : d[i] = row := (List.getElem?_eq_some_iff.1 hr).2
            rw [Nat.zero_add, getD_lt hi] at this
            rw [Nat.zero_add, getD_lt (by omega)]
            exact this
          · intro h i x hx
            have hi := (List.getElem?_eq_some_iff.1 hx).1
            have := h i (d[i]'(by omega)) (List.getElem?_eq_getElem (by omega))
            obtain rfl : m.sizes[i] = x := (List.getElem?_eq_some_iff.1 hx).2
            rw [Nat.zero_add, getD_lt hi] at this
            rw [Nat.zero_add, getD_lt (by omega)]
            exact this
        rw [e]
        cases allFrom (fun i row => (row.length : Int) == m.sizes.getD i 0 + 1) d 0 <;> rfl
      · intro i x hx
        have hi := (List.getElem?_eq_some_iff.1 hx).1
        obtain rfl : m.sizes[i] = x := (List.getElem?_eq_some_iff.1 hx).2
        have hb := sizes_get ha hi
        show (idx d (i : Int)).bind _ = _
        rw [idx_lt (by omega), getD_lt (by omega), Option.bind_some, i64_id (by omega) (by omega), bne]
        cases ((d[i]'(by omega)).length : Int) == m.sizes[i] + 1 <;> rfl
    · rw [if_pos (by simp; omega), show ((d.length : Int) == (m.sizes.length : Int)) = false from by simp; omega]
      rfl
theorem FnExactDomainsValid_ok (m : Model) (d : List (List Bool)) (g0 : gModel m) (g1 : gBoolss d) : ∃ fu, l_FnExactDomainsValid fu m d = some true := by
  refine ⟨FU, ?_⟩
  unfold l_FnExactDomainsValid
  refine sz_law (szModel m 1048576 (by omega) (by omega) (lenM_of g0)) (by omega) fun r h0 h1 hs => ?_
  refine sz_law (szBoolSS d r h0 h1 g1.1 fun x hx => (g1.2 x hx).1) h1 fun r h0 h1 hd => ?_
  simp only [toModel m hs, toBoolSS d hd.1 hd.2, s_dom m hs FU (Nat.le_refl _), i_dom m hs, eqModel, eqBoolSS, Option.bind_some]
  simp
end Go.L
