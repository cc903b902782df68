/- Solutions in order: NextModel of both sides, and the law FnNextModel. -/
import Derived.Test.YtcjjfneofcpmfaaK12
namespace Go.L
open Go Go.E
set_option linter.unusedVariables false
set_option linter.unusedSimpArgs false
set_option maxRecDepth 100000

def firstN (m : Model) : Nat → List Int → Option (List Int)
  | 0, _ => none
  | k + 1, cs => if solves m cs then some cs else match nextC m.sizes cs with | some t => firstN m k t | none => none
/-- the first solution from some cells on -/
def first (m : Model) (cs : List Int) : Option (List Int) := firstN m (rem m.sizes cs + 1) cs
def nextModel (m : Model) (cells : List Int) : List Int × Bool := if okCells m cells then (match first m cells with | some t => (t, true) | none => ([], false)) else ([], false)
theorem first_yes {m : Model} {cs : List Int} (h : solves m cs = true) : first m cs = some cs := by unfold first; rw [firstN, if_pos h]
theorem first_step {m : Model} {cs t : List Int} (hf : fit m.sizes cs) (h : solves m cs = false) (hn : nextC m.sizes cs = some t) : first m cs = first m t := by
  have := (next_some hf hn).2
  unfold first
  rw [firstN, if_neg (by simp [h]), hn, this]
theorem first_end {m : Model} {cs : List Int} (h : solves m cs = false) (hn : nextC m.sizes cs = none) : first m cs = none := by
  unfold first; rw [firstN, if_neg (by simp [h]), hn]
theorem firstN_spec (m : Model) : ∀ (k : Nat) (cs t : List Int), fit m.sizes cs → firstN m k cs = some t → fit m.sizes t ∧ solves m t = true ∧ rem m.sizes t ≤ rem m.sizes cs
  | 0, _, _, _, h => by cases h
  | k + 1, cs, t, hf, h => by
    rw [firstN] at h
    by_cases hs : solves m cs = true
    · rw [if_pos hs] at h
      injection h with h
      subst h
      exact ⟨hf, hs, Nat.le_refl _⟩
    · rw [if_neg hs] at h
      cases hn : nextC m.sizes cs with
      | none => rw [hn] at h; cases h
      | some u =>
        rw [hn] at h
        obtain ⟨h1, h2⟩ := next_some hf hn
        obtain ⟨a, b, c⟩ := firstN_spec m k u t h1 h
        exact ⟨a, b, by omega⟩
theorem s_nextModel (m : Model) (h : smallM m) (fu : Nat) (hfu : FU ≤ fu) (cells : List Int) (hcl : cells.length ≤ 1048576) : s_NextModel fu m cells = some (nextModel m cells) := by
  unfold s_NextModel nextModel
  rw [s_cells m h fu hfu, Option.bind_some]
  cases hc : okCells m cells with
  | false => rfl
  | true =>
    obtain ⟨hok, hci⟩ := okCells_parts hc
    obtain ⟨h1, h5, ha, _⟩ := okModel_parts hok
    have hz := cellsIn_fit.1 hci
    simp only [Bool.not_true, Bool.false_eq_true, if_false, if_true]
    rw [app_le (by simp; omega), Option.bind_some, List.nil_append]
    obtain ⟨j, hj, hQ⟩ := while_inv (b := s_NextModel_b1 fu m) (fun k s => (s.2 = true ∧ fit m.sizes s.1 ∧ k = rem m.sizes s.1 + 1 ∧ first m s.1 = first m cells) ∨ (s.2 = false ∧ k = 0 ∧ first m cells = none))
      (fun j => match j with | .nx _ => first m cells = none | .out t => first m cells = some t.1 ∧ t.2 = true)
      (by
        rintro k ⟨cs, more⟩ hI
        simp only at hI
        rcases hI with ⟨rfl, hf, rfl, ht⟩ | ⟨rfl, rfl, ht⟩
        · have hl := fit_len hf
          have hsol := s_solves h hok (cellsIn_fit.2 hf)
          have hnx := s_next m cs hf (by omega) ha fu hfu
          cases hs : solves m cs with
          | true =>
            refine ⟨.out (cs, true), ?_, ?_⟩
            · simp only [s_NextModel_b1, if_true, hsol, Option.bind_some, hs]
            · exact ⟨by rw [← ht, first_yes hs], rfl⟩
          | false =>
            refine ⟨.cont ((match nextC m.sizes cs with | some c => (c, true) | none => (List.replicate cs.length 0, false)).1, (match nextC m.sizes cs with | some c => (c, true) | none => (List.replicate cs.length 0, false)).2), ?_, ?_⟩
            · simp only [s_NextModel_b1, if_true, hsol, Option.bind_some, hs, hnx, Bool.false_eq_true, if_false]
              rfl
            · cases hm : nextC m.sizes cs with
              | some t =>
                obtain ⟨hft, hrt⟩ := next_some hf hm
                exact ⟨rem m.sizes t + 1, by omega, .inl ⟨rfl, hft, rfl, by rw [← ht, first_step hf hs hm]⟩⟩
              | none => exact ⟨0, by omega, .inr ⟨rfl, rfl, by rw [← ht, first_end hs hm]⟩⟩
        · exact ⟨.brk (cs, false), rfl, ht⟩)
      fu (rem m.sizes cells + 1) (cells, true) (.inl ⟨rfl, hz, rfl, rfl⟩) (by have := rem_small hz ha (by omega); unfold FU at hfu; omega)
    rw [hj]
    cases j with
    | nx s => obtain ⟨a, b⟩ := s; simp only at hQ; rw [hQ]; rfl
    | out t => obtain ⟨a, b⟩ := t; simp only at hQ; obtain ⟨h1, h2⟩ := hQ; rw [h1, h2]; rfl
theorem i_nextModel (m : Model) (h : smallM m) (fu : Nat) (hfu : FU ≤ fu) (cells : List Int) (hcl : cells.length ≤ 1048576) : i_NextModel fu m cells = some (nextModel m cells) := by
  unfold i_NextModel nextModel
  rw [i_cells m h, Option.bind_some]
  cases hc : okCells m cells with
  | false => rfl
  | true =>
    obtain ⟨hok, hci⟩ := okCells_parts hc
    obtain ⟨h1, h5, ha, _⟩ := okModel_parts hok
    have hz := cellsIn_fit.1 hci
    have hlz := fit_len hz
    have hemp : ∀ cs : List Int, fit m.sizes cs → List.isEmpty cs = false := fun cs hf => by
      have := fit_len hf
      cases cs with
      | nil => simp at this; omega
      | cons _ _ => rfl
    simp only [Bool.not_true, Bool.false_eq_true, if_false, if_true]
    unfold i_NextModel_i1
    rw [clone_int _ (by omega), Option.bind_some, hemp cells hz]
    simp only [Bool.false_eq_true, if_false, Option.bind_some]
    obtain ⟨j, hj, hQ⟩ := while_inv (b := i_NextModel_b2 fu m) (fun k s => s.2 = [] ∧ fit m.sizes s.1 ∧ k = rem m.sizes s.1 ∧ first m s.1 = first m cells)
      (fun j => match j with | .nx s => first m cells = some s.2 ∧ List.isEmpty s.2 = false | .out t => first m cells = none ∧ t = [])
      (by
        rintro k ⟨cs, g⟩ ⟨hg, hf, rfl, ht⟩
        simp only at hg hf ht
        subst hg
        have hl := fit_len hf
        have hsol := i_solves h hok (cellsIn_fit.2 hf)
        cases hs : solves m cs with
        | true =>
          have hi3 : i_NextModel_i3 m cs [] = some (false, cs) := by
            unfold i_NextModel_i3
            rw [hsol, Option.bind_some, hs]
            simp only [if_true]
            rw [clone_int _ (by omega), Option.bind_some, hemp cs hf]
            simp [hemp cs hf]
          refine ⟨.brk (cs, cs), ?_, by rw [← ht, first_yes hs], hemp cs hf⟩
          show (i_NextModel_i3 m cs []).bind _ = _
          rw [hi3]; rfl
        | false =>
          have hi3 : i_NextModel_i3 m cs [] = some (true, []) := by
            unfold i_NextModel_i3
            rw [hsol, Option.bind_some, hs]
            rfl
          obtain ⟨j, hjl, hw, hj0, hjs⟩ := i_step m.sizes cs hf (by omega) fu hfu (b := i_NextModel_b4 m) (fun _ _ => rfl)
          have hbody : i_NextModel_b2 fu m (cs, []) = (if decide (((j : Int) - 1) < 0) then (some (.out [])) else ((idx (zfrom cs j) ((j : Int) - 1)).bind fun x => some (.cont (((zfrom cs j).set (Int.toNat ((j : Int) - 1)) (i64 (x + 1))), [])))) := by
            show (i_NextModel_i3 m cs []).bind _ = _
            rw [hi3, Option.bind_some]
            simp only [if_true]
            rw [hw, Option.bind_some]
          rw [hbody]
          cases j with
          | zero =>
            refine ⟨.out [], by rw [if_pos (by simp)], by rw [← ht, first_end hs (hj0 rfl)], rfl⟩
          | succ k =>
            obtain ⟨hk, hnx⟩ := hjs k rfl
            obtain ⟨hft, hrt⟩ := next_some hf hnx
            have hb := fit_get hf hk
            have hsz := sizes_get ha (i := k) (by omega)
            have e : (((k + 1 : Nat) : Int) - 1) = (k : Int) := by omega
            rw [e, if_neg (by simp), idx_nat, zfrom_get cs k hk, Option.bind_some, i64_id (by omega) (by omega), Int.toNat_natCast]
            exact ⟨_, rfl, rem m.sizes ((zfrom cs (k + 1)).set k (cs[k] + 1)), by show _ < rem m.sizes cs; omega, rfl, hft, rfl, by rw [← ht, first_step hf hs hnx]⟩)
      fu (rem m.sizes cells) (cells, []) ⟨rfl, hz, rfl, rfl⟩ (by have := rem_small hz ha (by omega); unfold FU at hfu; omega)
    rw [hj]
    cases j with
    | nx s => obtain ⟨a, b⟩ := s; simp only at hQ; obtain ⟨h1, h2⟩ := hQ; rw [h1]; simp [h2]
    | out t => simp only at hQ; obtain ⟨h1, h2⟩ := hQ; rw [h1, h2]; rfl
/-- less in the order of words -/
def lexL : List Int → List Int → Bool
  | a :: as, b :: bs => if a = b then lexL as bs else decide (a < b)
  | _, _ => false
theorem lexL_rem : ∀ {ss as bs : List Int}, fit ss as → fit ss bs → lexL as bs = true → rem ss bs < rem ss as
  | [], [], [], _, _, h => by simp [lexL] at h
  | [], _ :: _, _, h, _, _ => by simp [fit] at h
  | [], [], _ :: _, _, h, _ => by simp [fit] at h
  | s :: ss, [], _, h, _, _ => by simp [fit] at h
  | s :: ss, _ :: _, [], _, h, _ => by simp [fit] at h
  | s :: ss, a :: as, b :: bs, hfa, hfb, h => by
    obtain ⟨a0, a1⟩ := hfa
    obtain ⟨b0, b1⟩ := hfb
    rw [lexL] at h
    show (s - b).toNat * prodS ss + rem ss bs < (s - a).toNat * prodS ss + rem ss as
    by_cases hab : a = b
    · rw [if_pos hab] at h
      subst hab
      have := lexL_rem a1 b1 h
      omega
    · rw [if_neg hab] at h
      have hlt := of_decide_eq_true h
      have h2 := rem_lt b1
      have h3 : ((s - b).toNat + 1) * prodS ss ≤ (s - a).toNat * prodS ss := Nat.mul_le_mul_right _ (by omega)
      rw [Nat.add_mul] at h3
      omega
theorem cpLess_eq (a b : List Int) (fu : Nat) (hf : FU ≤ fu) (ha : a.length ≤ 1000) : l_cpLess fu a b = some (lexL a b) := by
  unfold l_cpLess
  obtain ⟨j, hj, hQ⟩ := while_inv (b := l_cpLess_b1 a b) (fun n s => ∃ i : Nat, s = (i : Int) ∧ n = a.length - i ∧ i ≤ a.length ∧ lexL (a.drop i) (b.drop i) = lexL a b)
    (fun j => match j with | .nx _ => lexL a b = false | .out t => t = lexL a b)
    (by
      rintro n s ⟨i, rfl, rfl, hi, hl⟩
      unfold l_cpLess_b1
      by_cases hc : i < a.length ∧ i < b.length
      · rw [if_pos (by simp; omega), idx_lt hc.1, idx_lt hc.2]
        simp only [Option.bind_some]
        rw [List.drop_eq_getElem_cons hc.1, List.drop_eq_getElem_cons hc.2, lexL] at hl
        by_cases he : a[i] = b[i]
        · rw [if_pos he] at hl
          exact ⟨.cont (i64 ((i : Int) + 1)), by rw [if_neg (by simpa using he)], a.length - (i + 1), by omega, i + 1, by rw [i64_id (by omega) (by omega)]; omega, rfl, by omega, hl⟩
        · rw [if_neg he] at hl
          exact ⟨.out (decide (a[i] < b[i])), by rw [if_pos (by simpa using he)], hl⟩
      · refine ⟨.brk (i : Int), by rw [if_neg (by simp; omega)], ?_⟩
        show lexL a b = false
        rw [← hl]
        by_cases h1 : a.length ≤ i
        · rw [List.drop_eq_nil_of_le h1]; rfl
        · rw [List.drop_eq_nil_of_le (as := b) (by omega)]
          cases a.drop i <;> rfl)
    fu a.length 0 ⟨0, rfl, rfl, Nat.zero_le _, rfl⟩ (by unfold FU at hf; omega)
  rw [hj]
  cases j with
  | nx s => simp only at hQ; rw [hQ]; rfl
  | out t => simp only at hQ; rw [hQ]; rfl
theorem cpInts_eq (a b : List Int) (hl : a.length = b.length) : l_cpInts a b = some (decide (a = b)) := by
  unfold l_cpInts
  rw [if_neg (by simp [hl])]
  rw [range_allI (fun i x => x == b.getD i 0) false a]
  · cases hq : allFrom (fun i x => x == b.getD i 0) a 0 with
    | true =>
      have := (allFrom_iff _ _ _).1 hq
      have hab : a = b := List.ext_getElem hl fun i h1 h2 => by
        have h3 := this i a[i] (List.getElem?_eq_getElem h1)
        rw [Nat.zero_add, beq_iff_eq, List.getD_eq_getElem?_getD, List.getElem?_eq_getElem h2] at h3
        exact h3
      simp [hab]
    | false =>
      have hab : a ≠ b := by
        intro h
        subst h
        have : allFrom (fun i x => x == a.getD i 0) a 0 = true := by
          rw [allFrom_iff]
          intro i x hx
          rw [Nat.zero_add, beq_iff_eq, List.getD_eq_getElem?_getD, hx]
          rfl
        rw [this] at hq; cases hq
      simp [hab]
  · intro i x hx
    have hi := (List.getElem?_eq_some_iff.1 hx).1
    have hib : i < b.length := by omega
    show (idx b (i : Int)).bind _ = _
    rw [idx_lt hib, Option.bind_some, List.getD_eq_getElem?_getD, List.getElem?_eq_getElem hib]
    by_cases h : x = b[i]
    · simp [h]
    · simp [h]
theorem drawNext_ok (code : List UInt8) (fu : Nat) (hf : FU ≤ fu) : s_DrawNextModel fu code = some () := by
  refine so_eq ?_
  unfold s_DrawNextModel
  exact so_anyB (⟨[], []⟩, []) (drawCells_ok code fu hf) ⟨s0, by simp [sOut]⟩ fun o ho => so_assert ho
theorem FnNextModel_ok (code : List UInt8) (g0 : code.length ≤ 9223372036854775807 ∧ ∀ x ∈ code, True) : ∃ fu, l_FnNextModel fu code = some true := by
  refine ⟨FU, ?_⟩
  unfold l_FnNextModel
  split
  · rfl
  refine anyB_intro (drawNext_ok code FU (Nat.le_refl _)) (o0 := (⟨[], []⟩, [])) ⟨s0, by simp [sOut]⟩ fun x hx => ?_
  obtain ⟨m, cells⟩ := x
  simp only at hx ⊢
  have hs := small_s hx.1
  have hcl : cells.length ≤ 1048576 := by have := hx.2; unfold sOut at this; omega
  rw [i_nextModel m hs FU (Nat.le_refl _) cells hcl, s_nextModel m hs FU (Nat.le_refl _) cells hcl]
  simp only [Option.bind_some, cpInts_self, bne_self_eq_false, Bool.not_true, Bool.false_eq_true, if_false, Bool.false_or, beq_self_eq_true, if_true]
  cases hc : okCells m cells with
  | false =>
    have e : nextModel m cells = ([], false) := by unfold nextModel; rw [hc]; rfl
    rw [e]; rfl
  | true =>
    obtain ⟨hok, hci⟩ := okCells_parts hc
    obtain ⟨p1, p5, pa, _⟩ := okModel_parts hok
    have hz := cellsIn_fit.1 hci
    cases hf1 : first m cells with
    | none =>
      have e : nextModel m cells = ([], false) := by unfold nextModel; rw [hc, hf1]; rfl
      rw [e]; rfl
    | some t =>
      have e : nextModel m cells = (t, true) := by unfold nextModel; rw [hc, hf1]; rfl
      rw [e]
      obtain ⟨hft, hst, hrt⟩ := firstN_spec m _ cells t hz hf1
      have hlt := fit_len hft
      have hlz := fit_len hz
      have hct : okCells m t = true := by unfold okCells; rw [hok, cellsIn_fit.2 hft]; rfl
      have e2 : nextModel m t = (t, true) := by unfold nextModel; rw [hct, first_yes hst]; rfl
      have hless : lexL t cells = false := by
        cases hl : lexL t cells with
        | false => rfl
        | true => have := lexL_rem hft hz hl; omega
      simp only [Bool.not_true, Bool.false_eq_true, if_false]
      rw [i_nextModel m hs FU (Nat.le_refl _) t (by omega), i_solvesM m hs, i_solvesM m hs, cpLess_eq t cells FU (Nat.le_refl _) (by omega), cpInts_eq t cells (by omega), e2, hless]
      have e3 : solvesM m t = true := by unfold solvesM; rw [hct, hst]; rfl
      rw [e3]
      simp only [Option.bind_some, cpInts_self, if_true, Bool.not_false, Bool.and_true]
      have e4 : solvesM m cells = decide (t = cells) := by
        unfold solvesM
        rw [hc, Bool.true_and]
        cases hsc : solves m cells with
        | true =>
          rw [first_yes hsc] at hf1
          injection hf1 with hf1
          simp [hf1]
        | false =>
          have : t ≠ cells := by rintro rfl; rw [hst] at hsc; cases hsc
          simp [this]
      rw [e4]
      simp
end Go.L
