/- The search of both sides is the plain one. -/
import Derived.Test.YteeilbddjlpiaaaK53
namespace Go.L
open Go Go.E
set_option linter.unusedVariables false
set_option linter.unusedSimpArgs false
set_option maxRecDepth 100000
theorem dcs_loop {τ : Type} {b : Nat → Int → List Int → Option (Lo (List Int) τ)} (hb : ∀ i l p, okP p → lit12 l → b i l p = some (.cont (asg p l))) :
    ∀ (ls : List Int) (i : Nat) (p : List Int), okP p → (∀ l ∈ ls, lit12 l) → rangeL b ls i p = some (.nx (asgL p ls))
  | [], i, p, _, _ => by simp [rangeL, asgL]
  | l :: ls, i, p, hp, hl => by
    show (b i l p).bind _ = _
    rw [hb i l p hp (hl l (by simp))]
    show rangeL b ls (i + 1) (asg p l) = _
    rw [dcs_loop hb ls (i + 1) _ (asg_ok hp l) fun x hx => hl x (by simp [hx])]
    rfl
theorem s_dec (d : List Int) (h : ∀ l ∈ d, lit12 l) : rangeL s_l5Search_b1 d 0 zeroP = some (.nx (asgL zeroP d)) :=
  dcs_loop (fun i l p hp hl => by rw [s_l5Search_b1, s_asg hp hl.1 hl.2.1 hl.2.2]; rfl) d 0 zeroP zeroP_ok h
theorem i_dec (d : List Int) (h : ∀ l ∈ d, lit12 l) : rangeL i_searching_visit_b1 d 0 zeroP = some (.nx (asgL zeroP d)) :=
  dcs_loop (fun i l p hp hl => by
    obtain ⟨h0, h1, h2⟩ := hl
    rw [i_searching_visit_b1]
    unfold i_variableOf
    rw [i64_id (n := -l) (by omega) (by omega), Option.bind_some, i64_id (n := max l (-l) - 1) (by omega) (by omega), idx_p hp (by omega) (by omega), Option.bind_some]
    unfold asg
    by_cases hp' : l > 0
    · rw [if_pos hp', if_neg (by simp; omega), show (max l (-l) - 1) = l - 1 by omega]; rfl
    · have hs : okP (p.set (Int.toNat (max l (-l) - 1)) 1) := ⟨by rw [List.length_set]; exact hp.1, fun x hx => by
        rcases List.mem_or_eq_of_mem_set hx with h | h
        · exact hp.2 x h
        · subst h; omega⟩
      rw [if_neg hp', if_pos (decide_eq_true (by omega)), i64_id (n := -l - 1) (by omega) (by omega), idx_p hs (by omega) (by omega), Option.bind_some, show (max l (-l) - 1) = -l - 1 by omega, List.set_set]; rfl) d 0 zeroP zeroP_ok h
theorem free_loop : ∀ (p : List Int) (i : Nat), i + p.length ≤ 1000 → rangeL s_l5Free_b1 p i () = some (if freeP p i = 0 then .nx () else .out (freeP p i))
  | [], i, _ => rfl
  | x :: p, i, h => by
    show (s_l5Free_b1 i x ()).bind _ = _
    rw [s_l5Free_b1, freeP]
    simp only [List.length_cons] at h
    by_cases e : x = 0
    · subst e
      rw [if_pos rfl, if_pos (show ((0 : Int) == 0) = true from rfl), if_neg (by omega), i64_id (by omega) (by omega)]; rfl
    · rw [if_neg (by simpa using e), if_neg e]
      exact free_loop p (i + 1) (by omega)
theorem s_free {p : List Int} (hp : okP p) : s_l5Free p = some (freeP p 0) := by
  unfold s_l5Free
  rw [free_loop p 0 (by rw [hp.1]; omega), Option.bind_some]
  by_cases e : freeP p 0 = 0
  · rw [if_pos e, e]
  · rw [if_neg e]
theorem vls_loop : ∀ (p : List Int) (i : Nat) (out : List Bool), i + p.length ≤ 1000 → out.length = i → rangeL i_valuesOf_b1 p i out = some (if freeP p i = 0 then .nx (out ++ valsP p) else .out ([], freeP p i, false))
  | [], i, out, _, _ => by simp [rangeL, freeP, valsP]
  | x :: p, i, out, h, ho => by
    show (i_valuesOf_b1 i x out).bind _ = _
    rw [i_valuesOf_b1, freeP]
    simp only [List.length_cons] at h
    by_cases e : x = 0
    · subst e
      rw [if_pos rfl, if_pos (show ((0 : Int) == 0) = true from rfl), if_neg (by omega), i64_id (by omega) (by omega)]; rfl
    · rw [if_neg (by simpa using e), if_neg e, app_le (by simp; omega), Option.bind_some]
      show rangeL i_valuesOf_b1 p (i + 1) (out ++ [decide (x > 0)]) = _
      rw [vls_loop p (i + 1) _ (by omega) (by simp [ho])]
      simp [valsP]
theorem i_values {p : List Int} (hp : okP p) : i_valuesOf p = some (if freeP p 0 = 0 then (valsP p, 0, true) else ([], freeP p 0, false)) := by
  unfold i_valuesOf
  rw [vls_loop p 0 [] (by rw [hp.1]; omega) rfl, Option.bind_some]
  by_cases e : freeP p 0 = 0
  · rw [if_pos e, if_pos e]; rfl
  · rw [if_neg e, if_neg e]
theorem neg_lits {τ : Type} {b : Nat → Int → List Int → Option (Lo (List Int) τ)} (hb : ∀ i l out, b i l out = (app out [i64 (-l)]).bind fun x => some (.cont x)) {d : List Int} (hd : ∀ l ∈ d, lit12 l) (h12 : d.length ≤ 12) : rangeL b d 0 [] = some (.nx (negL d)) :=
  range_map (fun l => -l) d fun i x out hx hlo => by
    have hi := (List.getElem?_eq_some_iff.1 hx).1
    have hl := hd x (List.mem_of_getElem? hx)
    rw [hb, app_le (by simp; omega), i64_id (by have := hl.2.2; omega) (by have := hl.2.1; omega)]; rfl
theorem Dec.len {d : List Int} (h : Dec d) : d.length ≤ 12 := by have := h.few; omega
theorem negL_len (d : List Int) : (negL d).length = d.length := by simp [negL]
theorem s_learn {s : Sst} (hs : Sok s) {d : List Int} (hd : Dec d) : s_l5Learn s d = some (learnP s d) := by
  have h1 := hs.len
  have h2 := hs.few
  have h3 := hd.len
  unfold s_l5Learn
  rw [neg_lits (fun i l out => by rw [s_l5Learn_b1]) hd.lit h3, Option.bind_some]
  simp only
  rw [s_clause]
  have e : clauseP (negL d) = (clC (negL d), true) := by
    unfold clauseP
    rw [neg_clOk hd, negL_len, decide_eq_true (by omega)]; rfl
  rw [e, Option.bind_some, app_le (by simp; omega), Option.bind_some, app_le (by simp; omega)]
  rfl
theorem i_own (c : Con) (h : c.terms.length ≤ 4000000) : i_Constraint_own c = some c := by
  unfold i_Constraint_own slices_Clone_implTerm
  rw [app_le (by simp; omega)]
  rfl
theorem clC_len (ls : List Int) : (clC ls).terms.length ≤ 12 := clT_len ls 12
theorem i_fail (fu : Nat) (hf : FU ≤ fu) {s : Srch} (hs : Sok ⟨s.list, s.steps, s.fuel⟩) {d : List Int} (hd : Dec d) : i_searching_fail fu s d = some ((learnP ⟨s.list, s.steps, s.fuel⟩ d).list, (learnP ⟨s.list, s.steps, s.fuel⟩ d).steps) := by
  have h1 := hs.len
  have h2 := hs.few
  simp only at h1 h2
  have h3 := hd.len
  unfold i_searching_fail
  rw [neg_lits (fun i l out => by rw [i_searching_fail_b1]) hd.lit h3, Option.bind_some]
  simp only
  rw [i_clause fu hf _ (negL_lit hd.lit) (negL_dis hd.dis) (by rw [negL_len]; exact h3), Option.bind_some, app_le (by simp; omega), Option.bind_some, i_own _ (by have := clC_len (negL d); simp only; omega), Option.bind_some, app_le (by simp; omega)]
  rfl
theorem i64_fuel {s : Sst} (hs : Sok s) : i64 (s.fuel - 1) = s.fuel - 1 := by
  have := hs.fuel0
  have := hs.fuel1
  rw [i64_id (by omega) (by omega)]
theorem app_dec {d : List Int} (hd : Dec d) (l : Int) : ((app ([]) d).bind fun x164 => app x164 ([l])) = some (d ++ [l]) := by
  have := hd.len
  rw [app_le (by simp; omega), Option.bind_some, app_le (by simp; omega)]
  rfl
theorem s_srch (fu : Nat) (hf : FU ≤ fu) : ∀ (n : Nat) (s : Sst) (d : List Int), Sok s → Dec d → 13 ≤ n + d.length → s_l5Search_R fu n s d = some (srchP n s d)
  | 0, s, d, hs, hd, hn => by have := hd.len; omega
  | n + 1, s, d, hs, hd, hn => by
    have hfl := i64_fuel hs
    have hlen := hd.len
    have hp0 := asgL_ok d zeroP_ok
    show s_l5Search_F fu (s_l5Search_R fu n) s d = _
    unfold s_l5Search_F
    have hcase := srch_cases n s d
    generalize srchP (n + 1) s d = R at hcase ⊢
    cases hcase with
    | dry h =>
      have : ((s.fuel == 0) || decide ((s.steps.length : Int) ≥ 1000)) = true := by
        rcases h with h | h
        · rw [h]; rfl
        · rw [decide_eq_true (by omega), Bool.or_true]
      rw [if_pos this]
    | conf h1 h2 h =>
      rw [if_neg (by simp; omega), mkZero, Option.bind_some, s_dec d hd.lit, Option.bind_some]
      simp only
      rw [s_prop fu hf hs.ok hp0, Option.bind_some, if_pos (decide_eq_true h), hfl, s_learn (hs.less h1) hd]
      rfl
    | leaf h1 h2 p h hf0 =>
      have hok := (prop_grow 13 _ hp0 hs.ok p h).1
      rw [if_neg (by simp; omega), mkZero, Option.bind_some, s_dec d hd.lit, Option.bind_some]
      simp only
      rw [s_prop fu hf hs.ok hp0, Option.bind_some, h, if_neg (by simp), s_free hok, Option.bind_some, hf0, if_pos (show ((0 : Int) == 0) = true from rfl), hfl,
        range_map (b := s_l5Search_b2) (fun x => decide (x > 0)) p fun i x out hx hlo => by
          have hi := (List.getElem?_eq_some_iff.1 hx).1
          rw [hok.1] at hi
          rw [s_l5Search_b2, app_le (by simp; omega)]; rfl]
      rfl
    | one h1 h2 p h hf0 r hr h3 =>
      have hok := (prop_grow 13 _ hp0 hs.ok p h).1
      obtain ⟨f1, f2, d1, d2⟩ := hd.free hs.ok h hf0
      have ih := s_srch fu hf n _ _ (hs.less h1) d1 (by simp; omega)
      rw [hr] at ih
      rw [if_neg (by simp; omega), mkZero, Option.bind_some, s_dec d hd.lit, Option.bind_some]
      simp only
      rw [s_prop fu hf hs.ok hp0, Option.bind_some, h, if_neg (by simp), s_free hok, Option.bind_some, if_neg (by simpa using hf0), hfl]
      have e1 : s_l5Search_b3 d (s_l5Search_R fu n) 0 (freeP p 0) (s.list, s.steps, s.fuel - 1) = some (.out R) := by
        rw [s_l5Search_b3, ← Option.bind_assoc, app_dec hd, Option.bind_some, ih, Option.bind_some, if_pos (by simpa using h3)]
      show ((s_l5Search_b3 d (s_l5Search_R fu n) 0 (freeP p 0) (s.list, s.steps, s.fuel - 1)).bind _).bind _ = _
      rw [e1]; rfl
    | two h1 h2 p h hf0 r hr h3 q hq h4 =>
      have hok := (prop_grow 13 _ hp0 hs.ok p h).1
      obtain ⟨f1, f2, d1, d2⟩ := hd.free hs.ok h hf0
      have ih := s_srch fu hf n _ _ (hs.less h1) d1 (by simp; omega)
      have O := (srch_ok n _ _ (hs.less h1) d1).1
      rw [hr] at ih O
      have ih2 := s_srch fu hf n _ _ O d2 (by simp; omega)
      have O2 := (srch_ok n _ _ O d2).1
      rw [hq] at ih2 O2
      rw [if_neg (by simp; omega), mkZero, Option.bind_some, s_dec d hd.lit, Option.bind_some]
      simp only
      rw [s_prop fu hf hs.ok hp0, Option.bind_some, h, if_neg (by simp), s_free hok, Option.bind_some, if_neg (by simpa using hf0), hfl]
      have hng : i64 (-freeP p 0) = -freeP p 0 := by rw [i64_id (by have := f1.2.2; omega) (by have := f1.2.1; omega)]
      have e1 : s_l5Search_b3 d (s_l5Search_R fu n) 0 (freeP p 0) (s.list, s.steps, s.fuel - 1) = some (.cont (r.1.list, r.1.steps, r.1.fuel)) := by
        rw [s_l5Search_b3, ← Option.bind_assoc, app_dec hd, Option.bind_some, ih, Option.bind_some, if_neg (by simp [h3])]
      have e2 : s_l5Search_b3 d (s_l5Search_R fu n) 1 (-freeP p 0) (r.1.list, r.1.steps, r.1.fuel) = some (.out R) := by
        rw [s_l5Search_b3, ← Option.bind_assoc, app_dec hd, Option.bind_some, ih2, Option.bind_some, if_pos (by simpa using h4)]
      rw [hng]
      show ((s_l5Search_b3 d (s_l5Search_R fu n) 0 (freeP p 0) (s.list, s.steps, s.fuel - 1)).bind _).bind _ = _
      rw [e1]
      show ((s_l5Search_b3 d (s_l5Search_R fu n) 1 (-freeP p 0) (r.1.list, r.1.steps, r.1.fuel)).bind _).bind _ = _
      rw [e2]; rfl
    | much h1 h2 p h hf0 r hr h3 q hq h4 h5 =>
      have hok := (prop_grow 13 _ hp0 hs.ok p h).1
      obtain ⟨f1, f2, d1, d2⟩ := hd.free hs.ok h hf0
      have ih := s_srch fu hf n _ _ (hs.less h1) d1 (by simp; omega)
      have O := (srch_ok n _ _ (hs.less h1) d1).1
      rw [hr] at ih O
      have ih2 := s_srch fu hf n _ _ O d2 (by simp; omega)
      have O2 := (srch_ok n _ _ O d2).1
      rw [hq] at ih2 O2
      rw [if_neg (by simp; omega), mkZero, Option.bind_some, s_dec d hd.lit, Option.bind_some]
      simp only
      rw [s_prop fu hf hs.ok hp0, Option.bind_some, h, if_neg (by simp), s_free hok, Option.bind_some, if_neg (by simpa using hf0), hfl]
      have hng : i64 (-freeP p 0) = -freeP p 0 := by rw [i64_id (by have := f1.2.2; omega) (by have := f1.2.1; omega)]
      have e1 : s_l5Search_b3 d (s_l5Search_R fu n) 0 (freeP p 0) (s.list, s.steps, s.fuel - 1) = some (.cont (r.1.list, r.1.steps, r.1.fuel)) := by
        rw [s_l5Search_b3, ← Option.bind_assoc, app_dec hd, Option.bind_some, ih, Option.bind_some, if_neg (by simp [h3])]
      have e2 : s_l5Search_b3 d (s_l5Search_R fu n) 1 (-freeP p 0) (r.1.list, r.1.steps, r.1.fuel) = some (.cont (q.1.list, q.1.steps, q.1.fuel)) := by
        rw [s_l5Search_b3, ← Option.bind_assoc, app_dec hd, Option.bind_some, ih2, Option.bind_some, if_neg (by simp [h4])]
      have e3 : rangeL (s_l5Search_b3 d (s_l5Search_R fu n)) [freeP p 0, -freeP p 0] 0 (s.list, s.steps, s.fuel - 1) = some (.nx (q.1.list, q.1.steps, q.1.fuel)) := by
        show (s_l5Search_b3 d (s_l5Search_R fu n) 0 (freeP p 0) (s.list, s.steps, s.fuel - 1)).bind _ = _
        rw [e1]
        show (s_l5Search_b3 d (s_l5Search_R fu n) 1 (-freeP p 0) (r.1.list, r.1.steps, r.1.fuel)).bind _ = _
        rw [e2]; rfl
      rw [hng, e3, Option.bind_some]
      simp only
      rw [if_pos (decide_eq_true (by omega))]
    | fail h1 h2 p h hf0 r hr h3 q hq h4 h5 =>
      have hok := (prop_grow 13 _ hp0 hs.ok p h).1
      obtain ⟨f1, f2, d1, d2⟩ := hd.free hs.ok h hf0
      have ih := s_srch fu hf n _ _ (hs.less h1) d1 (by simp; omega)
      have O := (srch_ok n _ _ (hs.less h1) d1).1
      rw [hr] at ih O
      have ih2 := s_srch fu hf n _ _ O d2 (by simp; omega)
      have O2 := (srch_ok n _ _ O d2).1
      rw [hq] at ih2 O2
      rw [if_neg (by simp; omega), mkZero, Option.bind_some, s_dec d hd.lit, Option.bind_some]
      simp only
      rw [s_prop fu hf hs.ok hp0, Option.bind_some, h, if_neg (by simp), s_free hok, Option.bind_some, if_neg (by simpa using hf0), hfl]
      have hng : i64 (-freeP p 0) = -freeP p 0 := by rw [i64_id (by have := f1.2.2; omega) (by have := f1.2.1; omega)]
      have e1 : s_l5Search_b3 d (s_l5Search_R fu n) 0 (freeP p 0) (s.list, s.steps, s.fuel - 1) = some (.cont (r.1.list, r.1.steps, r.1.fuel)) := by
        rw [s_l5Search_b3, ← Option.bind_assoc, app_dec hd, Option.bind_some, ih, Option.bind_some, if_neg (by simp [h3])]
      have e2 : s_l5Search_b3 d (s_l5Search_R fu n) 1 (-freeP p 0) (r.1.list, r.1.steps, r.1.fuel) = some (.cont (q.1.list, q.1.steps, q.1.fuel)) := by
        rw [s_l5Search_b3, ← Option.bind_assoc, app_dec hd, Option.bind_some, ih2, Option.bind_some, if_neg (by simp [h4])]
      have e3 : rangeL (s_l5Search_b3 d (s_l5Search_R fu n)) [freeP p 0, -freeP p 0] 0 (s.list, s.steps, s.fuel - 1) = some (.nx (q.1.list, q.1.steps, q.1.fuel)) := by
        show (s_l5Search_b3 d (s_l5Search_R fu n) 0 (freeP p 0) (s.list, s.steps, s.fuel - 1)).bind _ = _
        rw [e1]
        show (s_l5Search_b3 d (s_l5Search_R fu n) 1 (-freeP p 0) (r.1.list, r.1.steps, r.1.fuel)).bind _ = _
        rw [e2]; rfl
      rw [hng, e3, Option.bind_some]
      simp only
      rw [if_neg (by simp; omega), s_learn O2 hd]
      rfl
/-- the answer, as the program's side gives it -/
def outI (r : Sst × Int × List Bool) : List Bool × Bool × List Con × Int × List Step × Bool := (r.2.2, r.2.1 == 1, r.1.list, r.1.fuel, r.1.steps, r.2.1 == 0)
theorem i_srch (fu : Nat) (hf : FU ≤ fu) : ∀ (n : Nat) (s : Sst) (d : List Int), Sok s → Dec d → 13 ≤ n + d.length → i_searching_visit_R fu n ⟨s.list, s.fuel, s.steps, false⟩ d = some (outI (srchP n s d))
  | 0, s, d, hs, hd, hn => by have := hd.len; omega
  | n + 1, s, d, hs, hd, hn => by
    have hfl := i64_fuel hs
    have hlen := hd.len
    have hp0 := asgL_ok d zeroP_ok
    show i_searching_visit_F fu (i_searching_visit_R fu n) ⟨s.list, s.fuel, s.steps, false⟩ d = _
    unfold i_searching_visit_F
    have hcase := srch_cases n s d
    generalize srchP (n + 1) s d = R at hcase ⊢
    cases hcase with
    | dry h =>
      have : ((s.fuel == 0) || decide ((s.steps.length : Int) ≥ 1000)) = true := by
        rcases h with h | h
        · rw [h]; rfl
        · rw [decide_eq_true (by omega), Bool.or_true]
      rw [if_pos this]; rfl
    | conf h1 h2 h =>
      rw [if_neg (by simp; omega), mkZero, Option.bind_some, i_dec d hd.lit, Option.bind_some]
      simp only
      rw [i_prop fu hf hs.ok hp0, Option.bind_some, if_neg (by simp; omega), Option.bind_some, hfl]
      simp only
      rw [i_fail fu hf (s := ⟨s.list, s.fuel - 1, s.steps, false⟩) (hs.less h1) hd]
      rfl
    | leaf h1 h2 p h hf0 =>
      have hok := (prop_grow 13 _ hp0 hs.ok p h).1
      rw [if_neg (by simp; omega), mkZero, Option.bind_some, i_dec d hd.lit, Option.bind_some]
      simp only
      rw [i_prop fu hf hs.ok hp0, Option.bind_some, h, if_pos (by simp), i_values hok, Option.bind_some, if_pos hf0, if_pos rfl, hfl]
      rfl
    | one h1 h2 p h hf0 r hr h3 =>
      have hok := (prop_grow 13 _ hp0 hs.ok p h).1
      obtain ⟨f1, f2, d1, d2⟩ := hd.free hs.ok h hf0
      have ih := i_srch fu hf n _ _ (hs.less h1) d1 (by simp; omega)
      have O := (srch_ok n _ _ (hs.less h1) d1).2.2.1
      rw [hr] at ih O
      rw [if_neg (by simp; omega), mkZero, Option.bind_some, i_dec d hd.lit, Option.bind_some]
      simp only
      rw [i_prop fu hf hs.ok hp0, Option.bind_some, h, if_pos (by simp), i_values hok, Option.bind_some, if_neg hf0, if_neg (by simp), hfl]
      have e1 : i_searching_visit_b2 d (i_searching_visit_R fu n) 0 (freeP p 0) (s.list, s.fuel - 1, s.steps, false) = some (.out (.out (outI R))) := by
        rw [i_searching_visit_b2, i_clone_int d (by omega), Option.bind_some, app_le (by simp; omega), Option.bind_some, ih, Option.bind_some, if_pos]
        rcases O with O | O | O
        · simp [outI, O]
        · simp [outI, O]
        · exact absurd O h3
      show ((((i_searching_visit_b2 d (i_searching_visit_R fu n) 0 (freeP p 0) (s.list, s.fuel - 1, s.steps, false)).bind _).bind _) : Option _).bind _ = _
      rw [e1]; rfl
    | two h1 h2 p h hf0 r hr h3 q hq h4 =>
      have hok := (prop_grow 13 _ hp0 hs.ok p h).1
      obtain ⟨f1, f2, d1, d2⟩ := hd.free hs.ok h hf0
      have ih := i_srch fu hf n _ _ (hs.less h1) d1 (by simp; omega)
      have O := (srch_ok n _ _ (hs.less h1) d1).1
      rw [hr] at ih O
      have ih2 := i_srch fu hf n _ _ O d2 (by simp; omega)
      have O2 := srch_ok n _ _ O d2
      rw [hq] at ih2 O2
      rw [if_neg (by simp; omega), mkZero, Option.bind_some, i_dec d hd.lit, Option.bind_some]
      simp only
      rw [i_prop fu hf hs.ok hp0, Option.bind_some, h, if_pos (by simp), i_values hok, Option.bind_some, if_neg hf0, if_neg (by simp), hfl]
      simp only
      have hng : i64 (-freeP p 0) = -freeP p 0 := by rw [i64_id (by have := f1.2.2; omega) (by have := f1.2.1; omega)]
      have e1 : i_searching_visit_b2 d (i_searching_visit_R fu n) 0 (freeP p 0) (s.list, s.fuel - 1, s.steps, false) = some (.cont (r.1.list, r.1.fuel, r.1.steps, false)) := by
        rw [i_searching_visit_b2, i_clone_int d (by omega), Option.bind_some, app_le (by simp; omega), Option.bind_some, ih, Option.bind_some, if_neg (by simp [outI, h3])]
        simp [outI, h3]
      have e2 : i_searching_visit_b2 d (i_searching_visit_R fu n) 1 (-freeP p 0) (r.1.list, r.1.fuel, r.1.steps, false) = some (.out (.out (outI R))) := by
        rw [i_searching_visit_b2, i_clone_int d (by omega), Option.bind_some, app_le (by simp; omega), Option.bind_some, ih2, Option.bind_some, if_pos]
        rcases O2.2.2.1 with O | O | O
        · simp [outI, O]
        · simp [outI, O]
        · exact absurd O h4
      have e3 : rangeL (i_searching_visit_b2 d (i_searching_visit_R fu n)) [freeP p 0, -freeP p 0] 0 (s.list, s.fuel - 1, s.steps, false) = some (.out (.out (outI R))) := by
        show (i_searching_visit_b2 d (i_searching_visit_R fu n) 0 (freeP p 0) (s.list, s.fuel - 1, s.steps, false)).bind _ = _
        rw [e1]
        show (i_searching_visit_b2 d (i_searching_visit_R fu n) 1 (-freeP p 0) (r.1.list, r.1.fuel, r.1.steps, false)).bind _ = _
        rw [e2]; rfl
      rw [hng, e3]; rfl
    | much h1 h2 p h hf0 r hr h3 q hq h4 h5 =>
      have hok := (prop_grow 13 _ hp0 hs.ok p h).1
      obtain ⟨f1, f2, d1, d2⟩ := hd.free hs.ok h hf0
      have ih := i_srch fu hf n _ _ (hs.less h1) d1 (by simp; omega)
      have O := (srch_ok n _ _ (hs.less h1) d1).1
      rw [hr] at ih O
      have ih2 := i_srch fu hf n _ _ O d2 (by simp; omega)
      have O2 := srch_ok n _ _ O d2
      rw [hq] at ih2 O2
      rw [if_neg (by simp; omega), mkZero, Option.bind_some, i_dec d hd.lit, Option.bind_some]
      simp only
      rw [i_prop fu hf hs.ok hp0, Option.bind_some, h, if_pos (by simp), i_values hok, Option.bind_some, if_neg hf0, if_neg (by simp), hfl]
      simp only
      have hng : i64 (-freeP p 0) = -freeP p 0 := by rw [i64_id (by have := f1.2.2; omega) (by have := f1.2.1; omega)]
      have e1 : i_searching_visit_b2 d (i_searching_visit_R fu n) 0 (freeP p 0) (s.list, s.fuel - 1, s.steps, false) = some (.cont (r.1.list, r.1.fuel, r.1.steps, false)) := by
        rw [i_searching_visit_b2, i_clone_int d (by omega), Option.bind_some, app_le (by simp; omega), Option.bind_some, ih, Option.bind_some, if_neg (by simp [outI, h3])]
        simp [outI, h3]
      have e2 : i_searching_visit_b2 d (i_searching_visit_R fu n) 1 (-freeP p 0) (r.1.list, r.1.fuel, r.1.steps, false) = some (.cont (q.1.list, q.1.fuel, q.1.steps, false)) := by
        rw [i_searching_visit_b2, i_clone_int d (by omega), Option.bind_some, app_le (by simp; omega), Option.bind_some, ih2, Option.bind_some, if_neg (by simp [outI, h4])]
        simp [outI, h4]
      have e3 : rangeL (i_searching_visit_b2 d (i_searching_visit_R fu n)) [freeP p 0, -freeP p 0] 0 (s.list, s.fuel - 1, s.steps, false) = some (.nx (q.1.list, q.1.fuel, q.1.steps, false)) := by
        show (i_searching_visit_b2 d (i_searching_visit_R fu n) 0 (freeP p 0) (s.list, s.fuel - 1, s.steps, false)).bind _ = _
        rw [e1]
        show (i_searching_visit_b2 d (i_searching_visit_R fu n) 1 (-freeP p 0) (r.1.list, r.1.fuel, r.1.steps, false)).bind _ = _
        rw [e2]; rfl
      rw [hng, e3, Option.bind_some]
      simp only
      rw [if_pos (decide_eq_true (by omega))]
      rfl
    | fail h1 h2 p h hf0 r hr h3 q hq h4 h5 =>
      have hok := (prop_grow 13 _ hp0 hs.ok p h).1
      obtain ⟨f1, f2, d1, d2⟩ := hd.free hs.ok h hf0
      have ih := i_srch fu hf n _ _ (hs.less h1) d1 (by simp; omega)
      have O := (srch_ok n _ _ (hs.less h1) d1).1
      rw [hr] at ih O
      have ih2 := i_srch fu hf n _ _ O d2 (by simp; omega)
      have O2 := srch_ok n _ _ O d2
      rw [hq] at ih2 O2
      rw [if_neg (by simp; omega), mkZero, Option.bind_some, i_dec d hd.lit, Option.bind_some]
      simp only
      rw [i_prop fu hf hs.ok hp0, Option.bind_some, h, if_pos (by simp), i_values hok, Option.bind_some, if_neg hf0, if_neg (by simp), hfl]
      simp only
      have hng : i64 (-freeP p 0) = -freeP p 0 := by rw [i64_id (by have := f1.2.2; omega) (by have := f1.2.1; omega)]
      have e1 : i_searching_visit_b2 d (i_searching_visit_R fu n) 0 (freeP p 0) (s.list, s.fuel - 1, s.steps, false) = some (.cont (r.1.list, r.1.fuel, r.1.steps, false)) := by
        rw [i_searching_visit_b2, i_clone_int d (by omega), Option.bind_some, app_le (by simp; omega), Option.bind_some, ih, Option.bind_some, if_neg (by simp [outI, h3])]
        simp [outI, h3]
      have e2 : i_searching_visit_b2 d (i_searching_visit_R fu n) 1 (-freeP p 0) (r.1.list, r.1.fuel, r.1.steps, false) = some (.cont (q.1.list, q.1.fuel, q.1.steps, false)) := by
        rw [i_searching_visit_b2, i_clone_int d (by omega), Option.bind_some, app_le (by simp; omega), Option.bind_some, ih2, Option.bind_some, if_neg (by simp [outI, h4])]
        simp [outI, h4]
      have e3 : rangeL (i_searching_visit_b2 d (i_searching_visit_R fu n)) [freeP p 0, -freeP p 0] 0 (s.list, s.fuel - 1, s.steps, false) = some (.nx (q.1.list, q.1.fuel, q.1.steps, false)) := by
        show (i_searching_visit_b2 d (i_searching_visit_R fu n) 0 (freeP p 0) (s.list, s.fuel - 1, s.steps, false)).bind _ = _
        rw [e1]
        show (i_searching_visit_b2 d (i_searching_visit_R fu n) 1 (-freeP p 0) (r.1.list, r.1.fuel, r.1.steps, false)).bind _ = _
        rw [e2]; rfl
      rw [hng, e3, Option.bind_some]
      simp only
      rw [if_neg (by simp; omega), Option.bind_some]
      simp only
      rw [i_fail fu hf (s := ⟨q.1.list, q.1.fuel, q.1.steps, false⟩) O2.1 hd]
      rfl
end Go.L
