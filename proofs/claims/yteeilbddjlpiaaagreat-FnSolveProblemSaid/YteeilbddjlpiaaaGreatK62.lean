/- What the search learns is checked: each learned clause follows by propagation; the law of solving. -/
import Derived.Test.YteeilbddjlpiaaaGreatK59
import Derived.Test.YteeilbddjlpiaaaGreatK37
namespace Go.L
open Go Go.E
set_option linter.unusedVariables false
set_option linter.unusedSimpArgs false
set_option maxRecDepth 100000
theorem clT_mem {ls : List Int} : ∀ n : Nat, ∀ t ∈ clT ls n, t.coef = 1 ∧ t.lit ∈ ls ∧ 0 < absI t.lit ∧ absI t.lit ≤ (n : Int)
  | 0, t, h => by simp [clT] at h
  | n + 1, t, h => by
    rw [clT] at h
    rcases List.mem_append.1 h with h | h
    · obtain ⟨a, b, c, d⟩ := clT_mem n t h
      exact ⟨a, b, c, by omega⟩
    · split at h
      · rename_i e
        rw [List.mem_singleton] at h
        subst h
        unfold seenAt at e ⊢
        simp only [List.contains_eq_mem, decide_eq_true_eq] at e ⊢
        split
        · exact ⟨trivial, ‹_›, by unfold absI; omega, by unfold absI; omega⟩
        · rename_i e1
          rw [if_neg e1] at e
          split
          · exact ⟨trivial, ‹_›, by unfold absI; omega, by unfold absI; omega⟩
          · rename_i e2; rw [if_neg e2] at e; exact absurd rfl e
      · cases h
theorem clT_has {ls : List Int} (h : clOk ls = true) {l : Int} (hl : l ∈ ls) : ∀ n : Nat, absI l ≤ (n : Int) → (⟨1, l⟩ : Term) ∈ clT ls n
  | 0, h0 => by
    have := ((clOk_iff.1 h) l hl).1.1
    unfold absI at h0; omega
  | n + 1, h0 => by
    rw [clT]
    by_cases e : absI l = ((n + 1 : Nat) : Int)
    · obtain ⟨⟨l0, _, _⟩, hn⟩ := (clOk_iff.1 h) l hl
      have es : seenAt ls ((n + 1 : Nat) : Int) = l := by
        unfold seenAt
        unfold absI at e
        simp only [List.contains_eq_mem, decide_eq_true_eq]
        by_cases hp : l > 0
        · have : ((n + 1 : Nat) : Int) = l := by omega
          rw [this, if_pos hl]
        · have e1 : ((n + 1 : Nat) : Int) = -l := by omega
          rw [e1, if_neg hn, Int.neg_neg, if_pos hl]
      rw [es, if_pos l0]
      exact List.mem_append.2 (.inr (by simp))
    · exact List.mem_append.2 (.inl (clT_has h hl n (by omega)))
theorem clT_one {ls : List Int} (x : Int) : ∀ n : Nat, sumR (fun t => if t.lit = x then t.coef else 0) (clT ls n) ≤ if absI x ≤ (n : Int) then 1 else 0
  | 0 => by
    rw [clT]
    show (0 : Int) ≤ _
    split <;> omega
  | n + 1 => by
    have ih := clT_one (ls := ls) x n
    rw [clT]
    by_cases e : seenAt ls ((n + 1 : Nat) : Int) ≠ 0
    · rw [if_pos e, sumR_snoc]
      have ha : absI (seenAt ls ((n + 1 : Nat) : Int)) = ((n + 1 : Nat) : Int) := by
        revert e
        unfold seenAt
        split
        · intro _; unfold absI; omega
        · split
          · intro _; unfold absI; omega
          · intro h; exact absurd rfl h
      simp only
      by_cases ex : seenAt ls ((n + 1 : Nat) : Int) = x
      · rw [if_pos ex]
        rw [ex] at ha
        rw [if_neg (by omega)] at ih
        rw [if_pos (by omega)]; omega
      · rw [if_neg ex, Int.add_zero]
        refine Int.le_trans ih ?_
        split <;> split <;> omega
    · rw [if_neg e, List.append_nil]
      refine Int.le_trans ih ?_
      split <;> split <;> omega
theorem clC_lits {ls : List Int} (h : clOk ls = true) {l : Int} (hl : l ∈ ls) : (⟨1, l⟩ : Term) ∈ (clC ls).terms := by
  obtain ⟨_, h1, h2⟩ := ((clOk_iff.1 h) l hl).1
  exact clT_has h hl 12 (by unfold absI; omega)
/-- a clause whose other literals are false makes its last one true -/
theorem clause_unit {ls : List Int} (h : clOk ls = true) {p : List Int} (hp : okP p) (hc : Closed p (clC ls)) {x : Int} (hx : x ∈ ls) (hf : ∀ l ∈ ls, l ≠ x → stt p l = -1) : stt p x = 1 := by
  have hx12 := ((clOk_iff.1 h) x hx).1
  have hr := stt_range hp hx12.1 hx12.2.1 hx12.2.2
  apply Classical.byContradiction
  intro hne
  have hk : keepT p (clC ls).terms ≤ if stt p x = 0 then 1 else 0 := by
    rw [keepT_sum]
    have h1 : sumR (fun t => if stt p t.lit ≥ 0 then t.coef else 0) (clC ls).terms ≤ sumR (fun t => if t.lit = x then (if stt p x = 0 then t.coef else 0) else 0) (clC ls).terms := by
      refine sumR_le _ fun t ht => ?_
      obtain ⟨a, b, _, _⟩ := clT_mem 12 t ht
      by_cases e : t.lit = x
      · rw [e, if_pos rfl]
        split <;> split <;> omega
      · rw [if_neg e, hf t.lit b e]; simp
    by_cases e0 : stt p x = 0
    · simp only [e0, if_true] at h1 ⊢
      have h2 := clT_one (ls := ls) x 12
      have h3 : sumR (fun t => if t.lit = x then t.coef else 0) (clC ls).terms ≤ 1 := by
        refine Int.le_trans h2 ?_
        split <;> omega
      omega
    · simp only [e0, if_false, ite_self] at h1 ⊢
      have : sumR (fun _ => (0 : Int)) (clC ls).terms = 0 := sumR_zero _ fun _ _ => rfl
      omega
  have hs : slackC (clC ls) p = -1 + keepT p (clC ls).terms := rfl
  have h0 := hc.1
  by_cases e0 : stt p x = 0
  · have := impL_nil hc.2 (clC_lits h hx) e0
    simp only at this
    rw [if_pos e0] at hk
    omega
  · rw [if_neg e0] at hk
    omega
/-- the clause's contrary makes each literal false -/
theorem contra_all {ls : List Int} (h : clOk ls = true) {p : List Int} (hp : okP p) (hc : Closed p (negC (clC ls))) : ∀ l ∈ ls, stt p (-l) = 1 := by
  intro l hl
  have hl12 := ((clOk_iff.1 h) l hl).1
  have hn12 : lit12 (-l) := ⟨by have := hl12.1; omega, by have := hl12.2.2; omega, by have := hl12.2.1; omega⟩
  have hr := stt_range hp hn12.1 hn12.2.1 hn12.2.2
  have hm : (⟨1, -l⟩ : Term) ∈ (negC (clC ls)).terms := List.mem_map.2 ⟨⟨1, l⟩, clC_lits h hl, rfl⟩
  have hb : (negC (clC ls)).bound = sumR (fun t => t.coef) (negC (clC ls)).terms := by
    have h1 : (negC (clC ls)).bound = max 0 (tot (clC ls) - 1 + 1) := rfl
    have h2 := (okCon_tot (clC_ok h)).1
    have h3 : sumR (fun t => t.coef) (negC (clC ls)).terms = sumR (fun t => t.coef) (clC ls).terms := by
      show sumR (fun t => t.coef) ((clC ls).terms.map fun t => ⟨t.coef, -t.lit⟩) = _
      generalize (clC ls).terms = ts
      induction ts with
      | nil => rfl
      | cons t ts ih => simp only [List.map_cons, sumR, ih]
    rw [h1, h3, ← tot_sum]; omega
  have hle : keepT p (negC (clC ls)).terms + (if stt p (-l) ≥ 0 then 0 else 1) ≤ sumR (fun t => t.coef) (negC (clC ls)).terms := by
    rw [keepT_sum]
    have hall : ∀ t ∈ (negC (clC ls)).terms, (if stt p t.lit ≥ 0 then t.coef else 0) ≤ t.coef := by
      intro t ht
      obtain ⟨u, hu, rfl⟩ := List.mem_map.1 ht
      obtain ⟨a, _⟩ := clT_mem 12 u hu
      simp only [a]
      split <;> omega
    by_cases e : stt p (-l) ≥ 0
    · rw [if_pos e, Int.add_zero]
      exact sumR_le _ hall
    · rw [if_neg e]
      exact sumR_le_mem (⟨1, -l⟩ : Term) 1 (by simp only; rw [if_neg e]; omega) _ hm hall
  have hs : slackC (negC (clC ls)) p = -(negC (clC ls)).bound + keepT p (negC (clC ls)).terms := rfl
  have h0 := hc.1
  have h1 : stt p (-l) ≥ 0 := by
    apply Classical.byContradiction
    intro hn
    rw [if_neg hn] at hle
    omega
  rw [if_pos h1] at hle
  by_cases e0 : stt p (-l) = 0
  · have := impL_nil hc.2 hm e0
    simp only at this
    omega
  · omega
/-- if the check by propagation fails, a closed state stays -/
theorem rup_false {list : List Con} {c : Con} (hl : ∀ x ∈ list, okCon x = true) (hc : okCon c = true) (h : rupB list c = false) : ∃ p, okP p ∧ (∀ x ∈ list, Closed p x) ∧ Closed p (negC c) := by
  unfold rupB at h
  rw [decide_eq_false_iff_not] at h
  cases hq : prop 13 (list ++ [negC c]) zeroP with
  | mk p a =>
    rw [hq] at h
    rcases prop_at 13 _ _ p a hq with rfl | h1
    · have hall : ∀ x ∈ list ++ [negC c], okCon x = true := rup_okA hl hc
      obtain ⟨h1, h2⟩ := prop_fix hall 13 zeroP zeroP_ok (by have := zer_le zeroP_ok; omega) p hq
      exact ⟨p, h1, fun x hx => h2 x (List.mem_append.2 (.inl hx)), h2 _ (List.mem_append.2 (.inr (by simp)))⟩
    · exact absurd h1 h
/-- a list of clauses, each of which follows from what comes before -/
inductive Rups (list : List Con) : List Con → Prop
  | nil : Rups list []
  | snoc {t : List Con} {c : Con} (h : Rups list t) (hc : okCon c = true) (hr : rupB (list ++ t) c = true) : Rups list (t ++ [c])
theorem conf_rup {list : List Con} (hl : ∀ x ∈ list, okCon x = true) {d : List Int} (hd : Dec d) (h : 0 ≤ (prop 13 list (asgL zeroP d)).2) : rupB list (clC (negL d)) = true := by
  cases hr : rupB list (clC (negL d)) with
  | true => rfl
  | false =>
    have hok := neg_clOk hd
    obtain ⟨p, hp, h1, h2⟩ := rup_false hl (clC_ok hok) hr
    have hset := contra_all hok hp h2
    have hle : LeP (asgL zeroP d) p := asgL_leP d zeroP_ok (zeroP_le _) fun l hl' => ⟨hd.lit l hl', by
      have := hset (-l) (List.mem_map.2 ⟨l, hl', rfl⟩)
      rwa [Int.neg_neg] at this⟩
    obtain ⟨p', e, _⟩ := prop_closed hp (cs := list) (fun c hc => ⟨hl c hc, h1 c hc⟩) 13 _ (asgL_ok d zeroP_ok) hle
    rw [e] at h
    exact absurd h (by simp)
theorem fail_rup {list : List Con} (hl : ∀ x ∈ list, okCon x = true) {d : List Int} {f : Int} (hd : Dec d) (d1 : Dec (d ++ [f])) (d2 : Dec (d ++ [-f])) (m1 : clC (negL (d ++ [f])) ∈ list) (m2 : clC (negL (d ++ [-f])) ∈ list) : rupB list (clC (negL d)) = true := by
  cases hr : rupB list (clC (negL d)) with
  | true => rfl
  | false =>
    have hok := neg_clOk hd
    obtain ⟨p, hp, h1, h2⟩ := rup_false hl (clC_ok hok) hr
    have hset := contra_all hok hp h2
    have hun : ∀ {g : Int}, Dec (d ++ [g]) → clC (negL (d ++ [g])) ∈ list → stt p (-g) = 1 := by
      intro g dg mg
      have hx : -g ∈ negL (d ++ [g]) := List.mem_map.2 ⟨g, by simp, rfl⟩
      refine clause_unit (neg_clOk dg) hp (h1 _ mg) hx fun l hl' hne => ?_
      obtain ⟨y, hy, rfl⟩ := List.mem_map.1 hl'
      rcases List.mem_append.1 hy with hy | hy
      · have hy12 := hd.lit y hy
        have := hset (-y) (List.mem_map.2 ⟨y, hy, rfl⟩)
        rw [stt_neg p (by have := hy12.1; omega)] at this
        omega
      · rw [List.mem_singleton] at hy; subst hy; exact absurd rfl hne
    have a1 := hun d1 m1
    have a2 := hun d2 m2
    have f0 : f ≠ 0 := (d1.lit f (by simp)).1
    rw [Int.neg_neg] at a2
    rw [stt_neg p f0] at a1
    omega
/-- what the search appends follows, clause by clause; at a failure the last says so -/
theorem srch_rups (L0 : List Con) : ∀ (n : Nat) (s : Sst) (d : List Int) (t : List Con), Sok s → Dec d → s.list = L0 ++ t → Rups L0 t →
    ∃ t', (srchP n s d).1.list = L0 ++ t' ∧ Rups L0 t' ∧ (∀ c ∈ s.list, c ∈ (srchP n s d).1.list) ∧ ((srchP n s d).2.1 = 2 → ∃ u, t' = u ++ [clC (negL d)])
  | 0, s, d, t, hs, hd, h, hr => ⟨t, h, hr, fun c hc => hc, fun h => by simp [srchP] at h⟩
  | n + 1, s, d, t, hs, hd, h, hr => by
    have hcase := srch_cases n s d
    generalize srchP (n + 1) s d = R at hcase ⊢
    cases hcase with
    | dry h1 => exact ⟨t, h, hr, fun c hc => hc, fun h => by simp at h⟩
    | conf h1 h2 h3 =>
      refine ⟨t ++ [clC (negL d)], by show s.list ++ _ = _; rw [h, List.append_assoc], .snoc hr (clC_ok (neg_clOk hd)) (by rw [← h]; exact conf_rup hs.ok hd h3), fun c hc => List.mem_append.2 (.inl hc), fun _ => ⟨t, rfl⟩⟩
    | leaf h1 h2 p h3 hf => exact ⟨t, h, hr, fun c hc => hc, fun h => by simp at h⟩
    | one h1 h2 p h3 hf r hr' h4 =>
      obtain ⟨f1, f2, d1, d2⟩ := hd.free hs.ok h3 hf
      obtain ⟨t', a1, a2, a3, a4⟩ := srch_rups L0 n ⟨s.list, s.steps, s.fuel - 1⟩ _ t (hs.less h1) d1 h hr
      rw [hr'] at a1 a3 a4
      exact ⟨t', a1, a2, a3, fun h => absurd h h4⟩
    | two h1 h2 p h3 hf r hr' h4 q hq h5 =>
      obtain ⟨f1, f2, d1, d2⟩ := hd.free hs.ok h3 hf
      obtain ⟨t', a1, a2, a3, a4⟩ := srch_rups L0 n ⟨s.list, s.steps, s.fuel - 1⟩ _ t (hs.less h1) d1 h hr
      have O := (srch_ok n _ _ (hs.less h1) d1).1
      rw [hr'] at a1 a3 a4 O
      obtain ⟨t2, b1, b2, b3, b4⟩ := srch_rups L0 n r.1 _ t' O d2 a1 a2
      rw [hq] at b1 b3 b4
      exact ⟨t2, b1, b2, fun c hc => b3 c (a3 c hc), fun h => absurd h h5⟩
    | much h1 h2 p h3 hf r hr' h4 q hq h5 h6 =>
      obtain ⟨f1, f2, d1, d2⟩ := hd.free hs.ok h3 hf
      obtain ⟨t', a1, a2, a3, a4⟩ := srch_rups L0 n ⟨s.list, s.steps, s.fuel - 1⟩ _ t (hs.less h1) d1 h hr
      have O := (srch_ok n _ _ (hs.less h1) d1).1
      rw [hr'] at a1 a3 a4 O
      obtain ⟨t2, b1, b2, b3, b4⟩ := srch_rups L0 n r.1 _ t' O d2 a1 a2
      rw [hq] at b1 b3 b4
      exact ⟨t2, b1, b2, fun c hc => b3 c (a3 c hc), fun h => by simp at h⟩
    | fail h1 h2 p h3 hf r hr' h4 q hq h5 h6 =>
      obtain ⟨f1, f2, d1, d2⟩ := hd.free hs.ok h3 hf
      obtain ⟨t', a1, a2, a3, a4⟩ := srch_rups L0 n ⟨s.list, s.steps, s.fuel - 1⟩ _ t (hs.less h1) d1 h hr
      have O := (srch_ok n _ _ (hs.less h1) d1).1
      rw [hr'] at a1 a3 a4 O
      obtain ⟨t2, b1, b2, b3, b4⟩ := srch_rups L0 n r.1 _ t' O d2 a1 a2
      have O2 := (srch_ok n _ _ O d2).1
      rw [hq] at b1 b3 b4 O2
      obtain ⟨u1, e1⟩ := a4 h4
      obtain ⟨u2, e2⟩ := b4 h5
      have m1 : clC (negL (d ++ [freeP p 0])) ∈ q.1.list := b3 _ (by rw [a1, e1]; simp)
      have m2 : clC (negL (d ++ [-freeP p 0])) ∈ q.1.list := by rw [b1, e2]; simp
      refine ⟨t2 ++ [clC (negL d)], by show q.1.list ++ _ = _; rw [b1, List.append_assoc], .snoc b2 (clC_ok (neg_clOk hd)) (by rw [← b1]; exact fail_rup O2.ok hd d1 d2 m1 m2), fun c hc => List.mem_append.2 (.inl (b3 c (a3 c hc))), fun _ => ⟨t2, rfl⟩⟩
theorem runD_snoc : ∀ (ss : List Step) (s : Step) (d : Db) (i : Nat), (runD d ss i).2 = -1 → runD d (ss ++ [s]) i = (match stepD (runD d ss i).1 s with | some d' => (d', -1) | none => ((runD d ss i).1, ((i + ss.length : Nat) : Int)))
  | [], s, d, i, h => by
    show runD d [s] i = _
    rw [runD, runD]
    cases stepD d s with
    | none => rfl
    | some d' => rfl
  | x :: ss, s, d, i, h => by
    rw [List.cons_append, runD]
    rw [runD] at h
    rw [show runD d (x :: ss) i = (match stepD d x with | some d' => runD d' ss (i + 1) | none => (d, (i : Int))) from rfl]
    cases hx : stepD d x with
    | none =>
      rw [hx] at h
      simp only at h
      omega
    | some d' =>
      rw [hx] at h
      simp only at h ⊢
      rw [runD_snoc ss s d' (i + 1) h, List.length_cons, show i + 1 + ss.length = i + (ss.length + 1) by omega]
theorem rups_run {list : List Con} : ∀ {t : List Con}, Rups list t → runL list (t.map stepOf) = (initD (list ++ t), -1) := by
  intro t h
  induction h with
  | nil => rw [List.append_nil]; rfl
  | @snoc t c h hc hr ih =>
    unfold runL at ih ⊢
    rw [List.map_append, List.map_singleton, runD_snoc _ _ _ _ (by rw [ih]), ih]
    have hk : keptD (initD (list ++ t)) = list ++ t := by unfold keptD initD; exact kept_all _
    have hd : deriveD (initD (list ++ t)) (stepOf c) = (c, true) := by
      unfold deriveD
      rw [hk]
      show (c, okCon c && rupB (list ++ t) c) = _
      rw [hc, hr]; rfl
    have hst : stepD (initD (list ++ t)) (stepOf c) = some (initD (list ++ t ++ [c])) := by
      unfold stepD
      rw [hd, push_init]
      rfl
    rw [hst, List.append_assoc]
theorem solve_ref {fu : Nat} {list : List Con} {fuel : Int} (h : (solveP fu list fuel).1 = 2) : refB list (solveP fu list fuel).2.2 = true ∧ (solveP fu list fuel).2.1 = [] := by
  obtain ⟨h1, h2⟩ := solve_ok (.inr h)
  have hs := start_ok h1 h2
  have O := (srch_ok fu _ _ hs Dec.nil).1
  obtain ⟨t', a1, a2, a3, a4⟩ := srch_rups list fu ⟨list, [], fuel⟩ [] [] hs Dec.nil (List.append_nil _).symm .nil
  obtain ⟨t, t1, t2, _⟩ := srch_tail fu ⟨list, [], fuel⟩ []
  have et : t = t' := by
    have : list ++ t = list ++ t' := by rw [← t1, ← a1]
    exact List.append_cancel_left this
  subst et
  rw [List.nil_append] at t2
  unfold solveP at h ⊢
  rw [h1, h2] at h ⊢
  simp only [Bool.and_true, if_true] at h ⊢
  by_cases e : (srchP fu ⟨list, [], fuel⟩ []).2.1 = 2
  · rw [if_pos e]
    refine ⟨?_, rfl⟩
    simp only
    obtain ⟨u, eu⟩ := a4 e
    have hrun := rups_run a2
    have hlen : (srchP fu ⟨list, [], fuel⟩ []).1.steps.length ≤ 1000 := O.few
    rw [refB_iff, t2, hrun]
    refine ⟨?_, by simp, ?_⟩
    · unfold fitsB
      rw [h1, ← t2, decide_eq_true (by omega)]; rfl
    · refine fAt_some _ _ 0 (list ++ u).length (clC (negL [])) ?_ (by decide) ?_
      · show (list ++ t)[_]? = _
        rw [eu, ← List.append_assoc, List.getElem?_append_right (Nat.le_refl _), Nat.sub_self]; rfl
      · show (List.replicate (list ++ t).length false)[_]? = _
        rw [List.getElem?_replicate_of_lt (by rw [eu]; simp)]
  · rw [if_neg e] at h
    exact absurd h e
theorem solve_none {fu : Nat} {list : List Con} {fuel : Int} (h1 : (solveP fu list fuel).1 ≠ 1) (h2 : (solveP fu list fuel).1 ≠ 2) : (solveP fu list fuel).2.1 = [] ∧ (solveP fu list fuel).2.2 = [] := by
  by_cases hc : (okProb list && fuelOk fuel) = true
  · obtain ⟨q1, q2⟩ := Bool.and_eq_true _ _ ▸ hc
    have O := (srch_ok fu _ _ (start_ok q1 q2) Dec.nil).2.2.2.1
    unfold solveP at h1 h2 ⊢
    rw [if_pos hc] at h1 h2 ⊢
    by_cases e : (srchP fu ⟨list, [], fuel⟩ []).2.1 = 2
    · rw [if_pos e] at h2; exact absurd rfl h2
    · rw [if_neg e] at h1 h2 ⊢
      exact ⟨O h1, rfl⟩
  · unfold solveP
    rw [if_neg hc]; exact ⟨rfl, rfl⟩
theorem solve_one {fu : Nat} {list : List Con} {fuel : Int} (h1 : (solveP fu list fuel).1 = 1) : (solveP fu list fuel).2.2 = [] := by
  unfold solveP at h1 ⊢
  split at h1
  · rename_i hc
    rw [if_pos hc]
    split at h1
    · simp at h1
    · rename_i e; rw [if_neg e]
  · simp at h1
theorem FnSolveProblem_ok (code : List UInt8) (g0 : code.length ≤ 9223372036854775807 ∧ ∀ x ∈ code, True) : ∃ fu, l_FnSolveProblem fu code = some true := by
  refine ⟨FU, ?_⟩
  unfold l_FnSolveProblem
  split
  · rfl
  have fuF : FU ≤ FU := Nat.le_refl _
  obtain ⟨x, hx, h1, h2⟩ := drawSolve_ok code FU fuF
  rw [hx, Option.bind_some, i_solve FU fuF, Option.bind_some, s_solve FU fuF _ (smL'_ML h1), Option.bind_some, cp_bools, i_proof_same]
  simp only [bne_self_eq_false, Bool.false_eq_true, if_false, decide_true, Bool.not_true, Option.bind_some]
  by_cases e1 : (solveP FU x.1 x.2).1 = 1
  · obtain ⟨q1, q2, q3, _⟩ := solve_sat e1
    rw [if_pos (by simp [e1]), i_sat q2, Option.bind_some, q1, q3, solve_one e1]
    rfl
  · rw [if_neg (by simpa using e1)]
    by_cases e2 : (solveP FU x.1 x.2).1 = 2
    · obtain ⟨q1, q2⟩ := solve_ref e2
      rw [if_pos (by simp [e2]), i_refB FU fuF, Option.bind_some, q1, q2]
      rfl
    · obtain ⟨q1, q2⟩ := solve_none e1 e2
      rw [if_neg (by simpa using e2), q1, q2]
      rfl
end Go.L
