/- What the search keeps, and what its answers say. -/
import Derived.Test.YteeilbddjlpiaaaK52
namespace Go.L
open Go Go.E
set_option linter.unusedVariables false
set_option linter.unusedSimpArgs false
set_option maxRecDepth 100000
/-- a sound state -/
structure Sok (s : Sst) : Prop where
  ok : ∀ c ∈ s.list, okCon c = true
  len : s.list.length ≤ 400 + s.steps.length
  few : s.steps.length ≤ 1000
  fuel0 : 0 ≤ s.fuel
  fuel1 : s.fuel ≤ 2000
theorem neg_clOk {d : List Int} (h : Dec d) : clOk (negL d) = true := distinct_ok (negL_lit h.lit) (negL_dis h.dis)
theorem Sok.learn {s : Sst} (h : Sok s) (hs : s.steps.length < 1000) {d : List Int} (hd : Dec d) : Sok (learnP s d) := by
  refine ⟨?_, ?_, ?_, h.fuel0, h.fuel1⟩
  · intro c hc
    rcases List.mem_append.1 hc with hc | hc
    · exact h.ok c hc
    · rw [List.mem_singleton] at hc; subst hc; exact clC_ok (neg_clOk hd)
  · have := h.len
    simp [learnP]; omega
  · simp [learnP]; omega
theorem Sok.less {s : Sst} (h : Sok s) (hf : s.fuel ≠ 0) : Sok ⟨s.list, s.steps, s.fuel - 1⟩ := by
  have := h.fuel0
  have := h.fuel1
  exact ⟨h.ok, h.len, h.few, by show (0 : Int) ≤ s.fuel - 1; omega, by show s.fuel - 1 ≤ 2000; omega⟩
theorem srch_ok : ∀ (n : Nat) (s : Sst) (d : List Int), Sok s → Dec d → Sok (srchP n s d).1 ∧ s.steps.length ≤ (srchP n s d).1.steps.length ∧ ((srchP n s d).2.1 = 0 ∨ (srchP n s d).2.1 = 1 ∨ (srchP n s d).2.1 = 2) ∧ ((srchP n s d).2.1 ≠ 1 → (srchP n s d).2.2 = []) ∧ ∃ t, (srchP n s d).1.list = s.list ++ t
  | 0, s, d, hs, hd => ⟨hs, Nat.le_refl _, .inl rfl, fun _ => rfl, [], (List.append_nil _).symm⟩
  | n + 1, s, d, hs, hd => by
    have hcase := srch_cases n s d
    generalize srchP (n + 1) s d = R at hcase ⊢
    cases hcase with
    | dry h => exact ⟨hs, Nat.le_refl _, .inl rfl, fun _ => rfl, [], (List.append_nil _).symm⟩
    | conf h1 h2 h => exact ⟨(hs.less h1).learn h2 hd, by simp [learnP], .inr (.inr rfl), fun _ => rfl, _, rfl⟩
    | leaf h1 h2 p h hf => exact ⟨hs.less h1, Nat.le_refl _, .inr (.inl rfl), fun h => absurd rfl h, [], (List.append_nil _).symm⟩
    | one h1 h2 p h hf r hr h3 =>
      obtain ⟨f1, f2, d1, d2⟩ := hd.free hs.ok h hf
      obtain ⟨a1, a2, a3, a4, a5⟩ := srch_ok n _ _ (hs.less h1) d1
      rw [hr] at a1 a2 a3 a4 a5
      exact ⟨a1, a2, a3, a4, a5⟩
    | two h1 h2 p h hf r hr h3 q hq h4 =>
      obtain ⟨f1, f2, d1, d2⟩ := hd.free hs.ok h hf
      obtain ⟨a1, a2, a3, a4, t, a5⟩ := srch_ok n _ _ (hs.less h1) d1
      rw [hr] at a1 a2 a3 a4 a5
      obtain ⟨b1, b2, b3, b4, u, b5⟩ := srch_ok n _ _ a1 d2
      rw [hq] at b1 b2 b3 b4 b5
      exact ⟨b1, Nat.le_trans a2 b2, b3, b4, t ++ u, by rw [b5, a5, List.append_assoc]⟩
    | much h1 h2 p h hf r hr h3 q hq h4 h5 =>
      obtain ⟨f1, f2, d1, d2⟩ := hd.free hs.ok h hf
      obtain ⟨a1, a2, a3, a4, t, a5⟩ := srch_ok n _ _ (hs.less h1) d1
      rw [hr] at a1 a2 a3 a4 a5
      obtain ⟨b1, b2, b3, b4, u, b5⟩ := srch_ok n _ _ a1 d2
      rw [hq] at b1 b2 b3 b4 b5
      exact ⟨b1, Nat.le_trans a2 b2, .inl rfl, fun _ => rfl, t ++ u, by show q.1.list = _; rw [b5, a5, List.append_assoc]⟩
    | fail h1 h2 p h hf r hr h3 q hq h4 h5 =>
      obtain ⟨f1, f2, d1, d2⟩ := hd.free hs.ok h hf
      obtain ⟨a1, a2, a3, a4, t, a5⟩ := srch_ok n _ _ (hs.less h1) d1
      rw [hr] at a1 a2 a3 a4 a5
      obtain ⟨b1, b2, b3, b4, u, b5⟩ := srch_ok n _ _ a1 d2
      rw [hq] at b1 b2 b3 b4 b5
      refine ⟨b1.learn h5 hd, ?_, .inr (.inr rfl), fun _ => rfl, t ++ (u ++ [clC (negL d)]), ?_⟩
      · have := Nat.le_trans a2 b2
        simp [learnP] at *; omega
      · show q.1.list ++ _ = _
        rw [b5, a5, List.append_assoc, List.append_assoc]
/-! solutions -/
def ext (v : List Bool) (d : List Int) : Prop := ∀ l ∈ d, trueL v l = true
theorem ext_snoc {v : List Bool} {d : List Int} {l : Int} : ext v (d ++ [l]) ↔ ext v d ∧ trueL v l = true := by
  unfold ext
  constructor
  · intro h; exact ⟨fun x hx => h x (by simp [hx]), h l (by simp)⟩
  · rintro ⟨h1, h2⟩ x hx
    rcases List.mem_append.1 hx with hx | hx
    · exact h1 x hx
    · rw [List.mem_singleton] at hx; subst hx; exact h2
theorem ext_le {v : List Bool} (hv : v.length = 12) {d : List Int} (hd : ∀ l ∈ d, lit12 l) (he : ext v d) : LeP (asgL zeroP d) (ofV v) :=
  asgL_leP d zeroP_ok (zeroP_le _) fun l hl => ⟨hd l hl, by rw [ofV_stt hv (hd l hl), if_pos (he l hl)]⟩
theorem all_closed {v : List Bool} (hv : v.length = 12) {list : List Con} (hc : ∀ c ∈ list, okCon c = true) (ha : allV list v = true) : ∀ c ∈ list, okCon c = true ∧ Closed (ofV v) c := by
  intro c h
  unfold allV at ha
  rw [List.all_eq_true] at ha
  exact ⟨hc c h, (closed_ofV hv (hc c h)).2 (ha c h)⟩
/-- propagation reaches no conflict, and keeps each solution -/
theorem prop_sol {v : List Bool} (hv : v.length = 12) {list : List Con} (hc : ∀ c ∈ list, okCon c = true) (ha : allV list v = true) {d : List Int} (hd : ∀ l ∈ d, lit12 l) (he : ext v d) :
    ∃ p, prop 13 list (asgL zeroP d) = (p, -1) ∧ okP p ∧ LeP p (ofV v) :=
  prop_closed (ofV_ok hv) (all_closed hv hc ha) 13 _ (asgL_ok d zeroP_ok) (ext_le hv hd he)
theorem clause_says {v : List Bool} {d : List Int} (hd : Dec d) : evalC (clC (negL d)) v = true ↔ ¬ ext v d := by
  rw [clC_eval (neg_clOk hd), neg_any d hd.lit, Bool.not_eq_true', ← Bool.not_eq_true, List.all_eq_true]
  rfl
theorem allV_snoc (list : List Con) (c : Con) (v : List Bool) : allV (list ++ [c]) v = (allV list v && evalC c v) := by
  unfold allV; rw [List.all_append]; simp
/-- `a` is no later than `b`: true comes first -/
def firstR (a b : List Bool) : Prop := a = b ∨ ∃ k, k < 12 ∧ (∀ j, j < k → a.getD j false = b.getD j false) ∧ a.getD k false = true ∧ b.getD k false = false
theorem getD_at {α : Type} {xs : List α} {k : Nat} (z : α) (h : k < xs.length) : xs.getD k z = xs[k] := by
  rw [List.getD_eq_getElem?_getD, List.getElem?_eq_getElem h]; rfl
theorem full_eq {p : List Int} (hp : okP p) (hf : freeP p 0 = 0) {v : List Bool} (hv : v.length = 12) (h : LeP p (ofV v)) : v = valsP p := by
  have hz := freeP_zero p 0 hf
  apply List.ext_getElem (by simp [valsP, hp.1, hv])
  intro k h1 h2
  have hk : k < 12 := by omega
  have hkp : k < p.length := by rw [hp.1]; exact hk
  have hne : p.getD k 0 ≠ 0 := by
    have := hz p[k] (List.getElem_mem hkp)
    rw [getD_at _ hkp]; exact this
  have h3 := h k hk hne
  rw [ofV_get v k h1] at h3
  rw [getD_at _ h1, getD_at _ hkp] at h3
  simp only [valsP, List.getElem_map]
  cases hb : v[k] with
  | true => rw [hb] at h3; rw [← h3]; rfl
  | false => rw [hb] at h3; rw [← h3]; rfl
theorem vals_ofV {p : List Int} (hp : okP p) (hf : freeP p 0 = 0) : ofV (valsP p) = p := by
  have hz := freeP_zero p 0 hf
  unfold ofV valsP
  rw [List.map_map]
  apply List.ext_getElem (by simp)
  intro k h1 h2
  rw [List.getElem_map]
  have a := hz p[k] (List.getElem_mem h2)
  have b := hp.2 p[k] (List.getElem_mem h2)
  simp only [Function.comp]
  by_cases h : p[k] > 0
  · simp only [h, decide_true, if_true]; omega
  · simp only [h, decide_false]; simp; omega
/-- each decision is true in its own assignment -/
theorem asgL_pos : ∀ (d : List Int) {p : List Int}, okP p → (∀ l ∈ d, lit12 l) → distinctA d → ∀ l ∈ d, stt (asgL p d) l = 1
  | [], _, _, _, _ => by simp
  | x :: d, p, hp, hl, hd => by
    intro l h
    have hx := hl x (by simp)
    have hl' : ∀ l ∈ d, lit12 l := fun y hy => hl y (by simp [hy])
    unfold distinctA at hd
    rw [List.map_cons, List.nodup_cons] at hd
    rcases List.mem_cons.1 h with rfl | h
    · show stt (asgL (asg p l) d) l = 1
      have h0 : stt (asg p l) l = 1 := by rw [stt_asg hp hx hx, if_pos rfl, if_pos rfl]
      have keep : ∀ (d : List Int) {p : List Int}, okP p → (∀ l ∈ d, lit12 l) → absI l ∉ d.map absI → stt (asgL p d) l = stt p l := by
        intro d
        induction d with
        | nil => intro p _ _ _; rfl
        | cons y d ih =>
          intro p hp hl hn
          rw [List.map_cons, List.mem_cons, not_or] at hn
          show stt (asgL (asg p y) d) l = _
          rw [ih (asg_ok hp y) (fun z hz => hl z (by simp [hz])) hn.2, stt_asg hp (hl y (by simp)) hx, if_neg hn.1]
      rw [keep d (asg_ok hp l) hl' hd.1, h0]
    · exact asgL_pos d (asg_ok hp x) hl' hd.2 l h
theorem Dec.pos {d : List Int} (hd : Dec d) {l : Int} (h : l ∈ d) : stt (asgL zeroP d) l = 1 := asgL_pos d zeroP_ok hd.lit hd.dis l h
theorem ofV_inj {v w : List Bool} {k : Nat} (hv : k < v.length) (hw : k < w.length) (h : (ofV v).getD k 0 = (ofV w).getD k 0) : v.getD k false = w.getD k false := by
  rw [ofV_get v k hv, ofV_get w k hw] at h
  revert h
  cases v.getD k false <;> cases w.getD k false <;> simp
/-- two solutions agree before the first unset variable -/
theorem first_at {list : List Con} (hc : ∀ c ∈ list, okCon c = true) {d : List Int} (hd : Dec d) {p : List Int} (hp : prop 13 list (asgL zeroP d) = (p, -1)) (hf : freeP p 0 ≠ 0)
    {v : List Bool} (hv : v.length = 12) (ha : allV list v = true) (he : ext v d) (ht : trueL v (-freeP p 0) = true)
    {w : List Bool} (hw : w.length = 12) (hb : allV list w = true) (hg : ext w (d ++ [freeP p 0])) :
    ∃ k, k < 12 ∧ (∀ j, j < k → w.getD j false = v.getD j false) ∧ w.getD k false = true ∧ v.getD k false = false := by
  obtain ⟨hok, _⟩ := prop_grow 13 _ (asgL_ok d zeroP_ok) hc p hp
  obtain ⟨k, h1, h2, h3, h4⟩ := freeP_pos p 0 hf
  rw [hok.1] at h1
  obtain ⟨hg1, hg2⟩ := ext_snoc.1 hg
  obtain ⟨p', a1, a2, a3⟩ := prop_sol hv hc ha hd.lit he
  obtain ⟨p'', b1, b2, b3⟩ := prop_sol hw hc hb hd.lit hg1
  rw [hp] at a1 b1
  injection a1 with a1 _
  injection b1 with b1 _
  subst a1 b1
  refine ⟨k, h1, fun j hj => ?_, ?_, ?_⟩
  · exact ofV_inj (by omega) (by omega) (by rw [a3 j (by omega) (h4 j hj), b3 j (by omega) (h4 j hj)])
  · unfold trueL at hg2
    rw [if_pos (by omega), show (freeP p 0 - 1).toNat = k by omega] at hg2
    exact hg2
  · unfold trueL at ht
    rw [if_neg (by omega), show (- -freeP p 0 - 1).toNat = k by omega] at ht
    simpa using ht
structure Ans (s : Sst) (d : List Int) (r : Sst × Int × List Bool) : Prop where
  cons : ∀ v : List Bool, v.length = 12 → allV s.list v = true → allV r.1.list v = true
  none : r.2.1 = 2 → ∀ v : List Bool, v.length = 12 → allV s.list v = true → ¬ ext v d
  sat : r.2.1 = 1 → r.2.2.length = 12 ∧ allV s.list r.2.2 = true ∧ ext r.2.2 d
  first : r.2.1 = 1 → ∀ v : List Bool, v.length = 12 → allV s.list v = true → ext v d → firstR r.2.2 v
theorem allV_pre {a b : List Con} {v : List Bool} (h : allV (a ++ b) v = true) : allV a v = true := by
  unfold allV at *; rw [List.all_append, Bool.and_eq_true] at h; exact h.1
theorem lit_or {v : List Bool} {l : Int} (h : l ≠ 0) : trueL v l = true ∨ trueL v (-l) = true := by
  rw [trueL_neg v h]; cases trueL v l <;> simp
theorem srch_ans : ∀ (n : Nat) (s : Sst) (d : List Int), Sok s → Dec d → Ans s d (srchP n s d)
  | 0, s, d, hs, hd => ⟨fun v _ h => h, fun h => by simp [srchP] at h, fun h => by simp [srchP] at h, fun h => by simp [srchP] at h⟩
  | n + 1, s, d, hs, hd => by
    have hcase := srch_cases n s d
    generalize srchP (n + 1) s d = R at hcase ⊢
    cases hcase with
    | dry h => exact ⟨fun v _ h => h, fun h => by simp at h, fun h => by simp at h, fun h => by simp at h⟩
    | conf h1 h2 h =>
      have no : ∀ v : List Bool, v.length = 12 → allV s.list v = true → ¬ ext v d := by
        intro v hv ha he
        obtain ⟨p, hp, _⟩ := prop_sol hv hs.ok ha hd.lit he
        rw [hp] at h
        exact absurd h (by simp)
      refine ⟨fun v hv ha => ?_, fun _ => no, fun h => by simp at h, fun h => by simp at h⟩
      show allV (s.list ++ [_]) v = true
      rw [allV_snoc, ha, (clause_says hd).2 (no v hv ha)]; rfl
    | leaf h1 h2 p h hf =>
      obtain ⟨hok, hcl⟩ := prop_fix hs.ok 13 _ (asgL_ok d zeroP_ok) (by have := zer_le (asgL_ok d zeroP_ok); omega) p h
      have hle := (prop_grow 13 _ (asgL_ok d zeroP_ok) hs.ok p h).2
      have hlen : (valsP p).length = 12 := by simp [valsP, hok.1]
      refine ⟨fun v _ h => h, fun h => by simp at h, fun _ => ⟨hlen, ?_, ?_⟩, fun _ v hv ha he => ?_⟩
      · unfold allV
        rw [List.all_eq_true]
        intro c hc
        rw [← closed_ofV hlen (hs.ok c hc), vals_ofV hok hf]
        exact hcl c hc
      · intro l hl
        have hl12 := hd.lit l hl
        show trueL (valsP p) l = true
        have hne : stt (asgL zeroP d) l ≠ 0 := asgL_set d zeroP_ok hd.lit hl12 (.inr (List.mem_map_of_mem hl))
        have h3 := leP_stt hle hl12 hne
        have h4 := ofV_stt hlen hl12
        rw [vals_ofV hok hf, h3] at h4
        have h5 : stt (asgL zeroP d) l = 1 := Dec.pos hd hl
        rw [h5] at h4
        cases ht : trueL (valsP p) l with
        | true => rfl
        | false => rw [ht] at h4; simp at h4
      · left
        show valsP p = v
        obtain ⟨p', e1, e2, e3⟩ := prop_sol hv hs.ok ha hd.lit he
        rw [h] at e1
        injection e1 with e1 _
        subst e1
        exact (full_eq hok hf hv e3).symm
    | one h1 h2 p h hf r hr h3 =>
      obtain ⟨f1, f2, d1, d2⟩ := hd.free hs.ok h hf
      have A := srch_ans n _ _ (hs.less h1) d1
      have O := srch_ok n _ _ (hs.less h1) d1
      rw [hr] at A O
      refine ⟨A.cons, fun h => absurd h h3, fun h => ?_, fun h => ?_⟩
      · obtain ⟨a, b, c⟩ := A.sat h; exact ⟨a, b, (ext_snoc.1 c).1⟩
      · intro v hv ha he
        rcases lit_or (v := v) hf with ht | ht
        · exact A.first h v hv ha (ext_snoc.2 ⟨he, ht⟩)
        · right
          obtain ⟨a, b, c⟩ := A.sat h
          exact first_at hs.ok hd ‹_› hf hv ha he ht a b c
    | two h1 h2 p h hf r hr h3 q hq h4 =>
      obtain ⟨f1, f2, d1, d2⟩ := hd.free hs.ok h hf
      have A := srch_ans n _ _ (hs.less h1) d1
      have O := srch_ok n _ _ (hs.less h1) d1
      rw [hr] at A O
      have B := srch_ans n _ _ O.1 d2
      have P := srch_ok n _ _ O.1 d2
      rw [hq] at B P
      obtain ⟨_, _, _, _, t, ht⟩ := O
      refine ⟨fun v hv ha => B.cons v hv (A.cons v hv ha), fun h => absurd h h4, fun h => ?_, fun h v hv ha he => ?_⟩
      · obtain ⟨a, b, c⟩ := B.sat h
        rw [ht] at b
        exact ⟨a, allV_pre b, (ext_snoc.1 c).1⟩
      · rcases lit_or (v := v) hf with hl | hl
        · exact absurd (ext_snoc.2 ⟨he, hl⟩) (A.none h3 v hv ha)
        · exact B.first h v hv (A.cons v hv ha) (ext_snoc.2 ⟨he, hl⟩)
    | much h1 h2 p h hf r hr h3 q hq h4 h5 =>
      obtain ⟨f1, f2, d1, d2⟩ := hd.free hs.ok h hf
      have A := srch_ans n _ _ (hs.less h1) d1
      have O := srch_ok n _ _ (hs.less h1) d1
      rw [hr] at A O
      have B := srch_ans n _ _ O.1 d2
      rw [hq] at B
      exact ⟨fun v hv ha => B.cons v hv (A.cons v hv ha), fun h => by simp at h, fun h => by simp at h, fun h => by simp at h⟩
    | fail h1 h2 p h hf r hr h3 q hq h4 h5 =>
      obtain ⟨f1, f2, d1, d2⟩ := hd.free hs.ok h hf
      have A := srch_ans n _ _ (hs.less h1) d1
      have O := srch_ok n _ _ (hs.less h1) d1
      rw [hr] at A O
      have B := srch_ans n _ _ O.1 d2
      rw [hq] at B
      have no : ∀ v : List Bool, v.length = 12 → allV s.list v = true → ¬ ext v d := by
        intro v hv ha he
        rcases lit_or (v := v) hf with hl | hl
        · exact A.none h3 v hv ha (ext_snoc.2 ⟨he, hl⟩)
        · exact B.none h4 v hv (A.cons v hv ha) (ext_snoc.2 ⟨he, hl⟩)
      refine ⟨fun v hv ha => ?_, fun _ => no, fun h => by simp at h, fun h => by simp at h⟩
      show allV (q.1.list ++ [_]) v = true
      rw [allV_snoc, B.cons v hv (A.cons v hv ha), (clause_says hd).2 (no v hv ha)]; rfl
end Go.L
