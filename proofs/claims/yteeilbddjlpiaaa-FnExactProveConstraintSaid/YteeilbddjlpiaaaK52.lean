/- The search: what it does, as a plain function; what it keeps. -/
import Derived.Test.YteeilbddjlpiaaaK51
namespace Go.L
open Go Go.E
set_option linter.unusedVariables false
set_option linter.unusedSimpArgs false
set_option maxRecDepth 100000
theorem asg_get {p : List Int} (hp : okP p) {l : Int} (hl : lit12 l) (k : Nat) (hk : k < 12) : (asg p l).getD k 0 = if absI l = (k : Int) + 1 then (if l > 0 then 1 else -1) else p.getD k 0 := by
  obtain ⟨h0, h1, h2⟩ := hl
  unfold asg absI
  by_cases h : l > 0
  · rw [if_pos h, if_pos h, getD_set _ _ _ _ (by rw [hp.1]; exact hk)]
    by_cases e : (l - 1).toNat = k
    · rw [if_pos e, if_pos (by omega)]
    · rw [if_neg e, if_neg (by omega)]
  · rw [if_neg h, if_neg h, getD_set _ _ _ _ (by rw [hp.1]; exact hk)]
    by_cases e : (-l - 1).toNat = k
    · rw [if_pos e, if_pos (by omega)]
    · rw [if_neg e, if_neg (by omega)]
theorem stt_get (p : List Int) {l : Int} (hl : lit12 l) : ∃ k : Nat, k < 12 ∧ absI l = (k : Int) + 1 ∧ (stt p l = p.getD k 0 ∨ stt p l = - p.getD k 0) := by
  obtain ⟨h0, h1, h2⟩ := hl
  unfold stt absI
  by_cases h : l > 0
  · exact ⟨(l - 1).toNat, by omega, by omega, .inl (by rw [if_pos h])⟩
  · exact ⟨(-l - 1).toNat, by omega, by omega, .inr (by rw [if_neg h])⟩
/-- what is set stays, if unset literals are assigned -/
theorem asg_keep {p p' : List Int} (hp' : okP p') (h : LeP p p') {l : Int} (hl : lit12 l) (h0 : stt p l = 0) : LeP p (asg p' l) := by
  intro k hk hn
  rw [asg_get hp' hl k hk]
  split
  · rename_i e
    obtain ⟨k', h1, h2, h3⟩ := stt_get p hl
    have : k' = k := by omega
    subst this
    exfalso; apply hn; omega
  · exact h k hk hn
theorem asgL_keep {p : List Int} : ∀ (ls : List Int) {p' : List Int}, okP p' → LeP p p' → (∀ l ∈ ls, lit12 l ∧ stt p l = 0) → LeP p (asgL p' ls)
  | [], _, _, h, _ => h
  | l :: ls, _, hp', h, hl => asgL_keep ls (asg_ok hp' l) (asg_keep hp' h (hl l (by simp)).1 (hl l (by simp)).2) fun x hx => hl x (by simp [hx])
theorem pass_grow : ∀ (cs : List Con) (i : Nat) (p : List Int) (m : Bool), okP p → (∀ c ∈ cs, okCon c = true) → ∀ p' m', pass cs i p m = .go p' m' → okP p' ∧ LeP p p'
  | [], _, p, m, hp, _, p', m', h => by
    rw [pass] at h
    injection h with h1 h2
    subst h1
    exact ⟨hp, leP_refl _⟩
  | c :: cs, i, p, m, hp, hc, p', m', h => by
    rw [pass] at h
    split at h
    · cases h
    · have hcc := hc c (by simp)
      have ho : okP (asgL p (impL p (slackC c p) c.terms)) := asgL_ok _ hp
      obtain ⟨h1, h2⟩ := pass_grow cs (i + 1) _ _ ho (fun x hx => hc x (by simp [hx])) p' m' h
      refine ⟨h1, leP_trans (asgL_keep _ hp (leP_refl p) fun l hl => ?_) h2⟩
      obtain ⟨t, _, _, h0, _⟩ := impL_mem hl
      exact ⟨impL_lit hcc l hl, h0⟩
theorem prop_grow : ∀ (n : Nat) {cs : List Con} (p : List Int), okP p → (∀ c ∈ cs, okCon c = true) → ∀ p', prop n cs p = (p', -1) → okP p' ∧ LeP p p'
  | 0, _, p, hp, _, p', h => by
    rw [prop] at h
    injection h with h
    subst h
    exact ⟨hp, leP_refl _⟩
  | n + 1, cs, p, hp, hc, p', h => by
    rw [prop] at h
    cases hq : pass cs 0 p false with
    | conf q i =>
      rw [hq] at h
      injection h with h1 h2
      omega
    | go q m =>
      rw [hq] at h
      obtain ⟨h1, h2⟩ := pass_grow cs 0 p false hp hc q m hq
      simp only at h
      split at h
      · obtain ⟨h3, h4⟩ := prop_grow n q h1 hc p' h
        exact ⟨h3, leP_trans h2 h4⟩
      · injection h with h
        subst h
        exact ⟨h1, h2⟩
/-- the first unset variable -/
def freeP : List Int → Nat → Int
  | [], _ => 0
  | x :: xs, i => if x = 0 then (i : Int) + 1 else freeP xs (i + 1)
theorem freeP_zero : ∀ (p : List Int) (i : Nat), freeP p i = 0 → ∀ x ∈ p, x ≠ 0
  | [], _, _ => by simp
  | x :: xs, i, h => by
    rw [freeP] at h
    split at h
    · omega
    · intro y hy
      rcases List.mem_cons.1 hy with rfl | hy
      · assumption
      · exact freeP_zero xs (i + 1) h y hy
theorem freeP_pos : ∀ (p : List Int) (i : Nat), freeP p i ≠ 0 → ∃ k : Nat, k < p.length ∧ freeP p i = (i : Int) + k + 1 ∧ p.getD k 0 = 0 ∧ ∀ j, j < k → p.getD j 0 ≠ 0
  | [], i, h => by simp [freeP] at h
  | x :: xs, i, h => by
    rw [freeP] at h ⊢
    split
    · rename_i e
      exact ⟨0, by simp, by simp, by simpa using e, by omega⟩
    · rename_i e
      rw [if_neg e] at h
      obtain ⟨k, h1, h2, h3, h4⟩ := freeP_pos xs (i + 1) h
      refine ⟨k + 1, by simp; omega, by omega, by simpa using h3, fun j hj => ?_⟩
      cases j with
      | zero => simpa using e
      | succ j => simpa using h4 j (by omega)
def valsP (p : List Int) : List Bool := p.map fun x => decide (x > 0)
def negL (d : List Int) : List Int := d.map fun l => -l
def learnP (s : Sst) (d : List Int) : Sst := ⟨s.list ++ [clC (negL d)], s.steps ++ [⟨7, 0, 0, clC (negL d)⟩], s.fuel⟩
def srchP : Nat → Sst → List Int → Sst × Int × List Bool
  | 0, s, _ => (s, 0, [])
  | n + 1, s, d =>
    if s.fuel = 0 ∨ 1000 ≤ s.steps.length then (s, 0, []) else
    if 0 ≤ (prop 13 s.list (asgL zeroP d)).2 then (learnP ⟨s.list, s.steps, s.fuel - 1⟩ d, 2, []) else
    if freeP (prop 13 s.list (asgL zeroP d)).1 0 = 0 then (⟨s.list, s.steps, s.fuel - 1⟩, 1, valsP (prop 13 s.list (asgL zeroP d)).1) else
    if (srchP n ⟨s.list, s.steps, s.fuel - 1⟩ (d ++ [freeP (prop 13 s.list (asgL zeroP d)).1 0])).2.1 ≠ 2 then srchP n ⟨s.list, s.steps, s.fuel - 1⟩ (d ++ [freeP (prop 13 s.list (asgL zeroP d)).1 0]) else
    if (srchP n (srchP n ⟨s.list, s.steps, s.fuel - 1⟩ (d ++ [freeP (prop 13 s.list (asgL zeroP d)).1 0])).1 (d ++ [-freeP (prop 13 s.list (asgL zeroP d)).1 0])).2.1 ≠ 2 then
      srchP n (srchP n ⟨s.list, s.steps, s.fuel - 1⟩ (d ++ [freeP (prop 13 s.list (asgL zeroP d)).1 0])).1 (d ++ [-freeP (prop 13 s.list (asgL zeroP d)).1 0]) else
    if 1000 ≤ (srchP n (srchP n ⟨s.list, s.steps, s.fuel - 1⟩ (d ++ [freeP (prop 13 s.list (asgL zeroP d)).1 0])).1 (d ++ [-freeP (prop 13 s.list (asgL zeroP d)).1 0])).1.steps.length then
      ((srchP n (srchP n ⟨s.list, s.steps, s.fuel - 1⟩ (d ++ [freeP (prop 13 s.list (asgL zeroP d)).1 0])).1 (d ++ [-freeP (prop 13 s.list (asgL zeroP d)).1 0])).1, 0, []) else
      (learnP (srchP n (srchP n ⟨s.list, s.steps, s.fuel - 1⟩ (d ++ [freeP (prop 13 s.list (asgL zeroP d)).1 0])).1 (d ++ [-freeP (prop 13 s.list (asgL zeroP d)).1 0])).1 d, 2, [])
/-- the cases of the search -/
inductive Srs (n : Nat) (s : Sst) (d : List Int) : Sst × Int × List Bool → Prop
  | dry (h : s.fuel = 0 ∨ 1000 ≤ s.steps.length) : Srs n s d (s, 0, [])
  | conf (h1 : s.fuel ≠ 0) (h2 : s.steps.length < 1000) (h : 0 ≤ (prop 13 s.list (asgL zeroP d)).2) : Srs n s d (learnP ⟨s.list, s.steps, s.fuel - 1⟩ d, 2, [])
  | leaf (h1 : s.fuel ≠ 0) (h2 : s.steps.length < 1000) (p : List Int) (h : prop 13 s.list (asgL zeroP d) = (p, -1)) (hf : freeP p 0 = 0) : Srs n s d (⟨s.list, s.steps, s.fuel - 1⟩, 1, valsP p)
  | one (h1 : s.fuel ≠ 0) (h2 : s.steps.length < 1000) (p : List Int) (h : prop 13 s.list (asgL zeroP d) = (p, -1)) (hf : freeP p 0 ≠ 0) (r : Sst × Int × List Bool) (hr : srchP n ⟨s.list, s.steps, s.fuel - 1⟩ (d ++ [freeP p 0]) = r) (h3 : r.2.1 ≠ 2) : Srs n s d r
  | two (h1 : s.fuel ≠ 0) (h2 : s.steps.length < 1000) (p : List Int) (h : prop 13 s.list (asgL zeroP d) = (p, -1)) (hf : freeP p 0 ≠ 0) (r : Sst × Int × List Bool) (hr : srchP n ⟨s.list, s.steps, s.fuel - 1⟩ (d ++ [freeP p 0]) = r) (h3 : r.2.1 = 2)
      (q : Sst × Int × List Bool) (hq : srchP n r.1 (d ++ [-freeP p 0]) = q) (h4 : q.2.1 ≠ 2) : Srs n s d q
  | much (h1 : s.fuel ≠ 0) (h2 : s.steps.length < 1000) (p : List Int) (h : prop 13 s.list (asgL zeroP d) = (p, -1)) (hf : freeP p 0 ≠ 0) (r : Sst × Int × List Bool) (hr : srchP n ⟨s.list, s.steps, s.fuel - 1⟩ (d ++ [freeP p 0]) = r) (h3 : r.2.1 = 2)
      (q : Sst × Int × List Bool) (hq : srchP n r.1 (d ++ [-freeP p 0]) = q) (h4 : q.2.1 = 2) (h5 : 1000 ≤ q.1.steps.length) : Srs n s d (q.1, 0, [])
  | fail (h1 : s.fuel ≠ 0) (h2 : s.steps.length < 1000) (p : List Int) (h : prop 13 s.list (asgL zeroP d) = (p, -1)) (hf : freeP p 0 ≠ 0) (r : Sst × Int × List Bool) (hr : srchP n ⟨s.list, s.steps, s.fuel - 1⟩ (d ++ [freeP p 0]) = r) (h3 : r.2.1 = 2)
      (q : Sst × Int × List Bool) (hq : srchP n r.1 (d ++ [-freeP p 0]) = q) (h4 : q.2.1 = 2) (h5 : q.1.steps.length < 1000) : Srs n s d (learnP q.1 d, 2, [])
theorem srch_cases (n : Nat) (s : Sst) (d : List Int) : Srs n s d (srchP (n + 1) s d) := by
  rw [srchP]
  by_cases h1 : s.fuel = 0 ∨ 1000 ≤ s.steps.length
  · rw [if_pos h1]; exact .dry h1
  rw [if_neg h1]
  have f1 : s.fuel ≠ 0 := fun h => h1 (.inl h)
  have f2 : s.steps.length < 1000 := by have : ¬ 1000 ≤ s.steps.length := fun h => h1 (.inr h); omega
  by_cases h2 : 0 ≤ (prop 13 s.list (asgL zeroP d)).2
  · rw [if_pos h2]; exact .conf f1 f2 h2
  rw [if_neg h2]
  obtain ⟨p, hp⟩ : ∃ p, prop 13 s.list (asgL zeroP d) = (p, -1) := by
    cases hq : prop 13 s.list (asgL zeroP d) with
    | mk p a =>
      rw [hq] at h2
      rcases prop_at 13 _ _ p a hq with rfl | h
      · exact ⟨p, rfl⟩
      · exact absurd h h2
  simp only [hp]
  by_cases h3 : freeP p 0 = 0
  · rw [if_pos h3]; exact .leaf f1 f2 p hp h3
  rw [if_neg h3]
  generalize hr : srchP n ⟨s.list, s.steps, s.fuel - 1⟩ (d ++ [freeP p 0]) = r
  by_cases h4 : r.2.1 ≠ 2
  · rw [if_pos h4]; exact .one f1 f2 p hp h3 r hr h4
  rw [if_neg h4]
  have h4 : r.2.1 = 2 := Classical.not_not.1 h4
  generalize hq : srchP n r.1 (d ++ [-freeP p 0]) = q
  by_cases h5 : q.2.1 ≠ 2
  · rw [if_pos h5]; exact .two f1 f2 p hp h3 r hr h4 q hq h5
  rw [if_neg h5]
  have h5 : q.2.1 = 2 := Classical.not_not.1 h5
  by_cases h6 : 1000 ≤ q.1.steps.length
  · rw [if_pos h6]; exact .much f1 f2 p hp h3 r hr h4 q hq h5 h6
  · rw [if_neg h6]; exact .fail f1 f2 p hp h3 r hr h4 q hq h5 (by omega)
/-! decisions -/
structure Dec (d : List Int) : Prop where
  lit : ∀ l ∈ d, lit12 l
  dis : distinctA d
  few : d.length + zer (asgL zeroP d) ≤ 12
theorem asgL_snoc (p : List Int) (d : List Int) (l : Int) : asgL p (d ++ [l]) = asg (asgL p d) l := by simp [asgL]
theorem stt_neg (p : List Int) {l : Int} (h : l ≠ 0) : stt p (-l) = - stt p l := by
  unfold stt
  by_cases h1 : l > 0
  · rw [if_pos h1, if_neg (by omega), Int.neg_neg]
  · rw [if_neg h1, if_pos (by omega)]; omega
theorem asg_set {p : List Int} (hp : okP p) {l k : Int} (hl : lit12 l) (hk : lit12 k) (h : stt p k ≠ 0 ∨ absI k = absI l) : stt (asg p l) k ≠ 0 := by
  rw [stt_asg hp hl hk]
  split
  · split <;> omega
  · rename_i e; exact h.resolve_right e
theorem asgL_set : ∀ (ls : List Int) {p : List Int}, okP p → (∀ l ∈ ls, lit12 l) → ∀ {k : Int}, lit12 k → (stt p k ≠ 0 ∨ absI k ∈ ls.map absI) → stt (asgL p ls) k ≠ 0
  | [], _, _, _, k, _, h => h.resolve_right (by simp)
  | l :: ls, p, hp, hl, k, hk, h => by
    have hl' := hl l (by simp)
    refine asgL_set ls (asg_ok hp l) (fun x hx => hl x (by simp [hx])) hk ?_
    rcases h with h | h
    · exact .inl (asg_set hp hl' hk (.inl h))
    · rw [List.map_cons, List.mem_cons] at h
      rcases h with h | h
      · exact .inl (asg_set hp hl' hk (.inr h))
      · exact .inr h
theorem Dec.nil : Dec [] := ⟨by simp, by simp [distinctA], by decide⟩
theorem Dec.snoc {d : List Int} (h : Dec d) {l : Int} (hl : lit12 l) (h0 : stt (asgL zeroP d) l = 0) : Dec (d ++ [l]) := by
  have hok := asgL_ok d zeroP_ok
  refine ⟨?_, ?_, ?_⟩
  · intro x hx
    rcases List.mem_append.1 hx with hx | hx
    · exact h.lit x hx
    · rw [List.mem_singleton] at hx; subst hx; exact hl
  · unfold distinctA
    rw [List.map_append, List.nodup_append]
    refine ⟨h.dis, by simp, ?_⟩
    intro a ha b hb e
    simp at hb
    subst hb e
    exact asgL_set d zeroP_ok h.lit hl (.inr ha) h0
  · rw [asgL_snoc, List.length_append]
    have h1 := (zer_asg hok hl).2 h0
    have := h.few
    simp only [List.length_cons, List.length_nil]
    omega
theorem Dec.free {d : List Int} (h : Dec d) {list : List Con} (hc : ∀ c ∈ list, okCon c = true) {p : List Int} (hp : prop 13 list (asgL zeroP d) = (p, -1)) (hf : freeP p 0 ≠ 0) :
    lit12 (freeP p 0) ∧ lit12 (-freeP p 0) ∧ Dec (d ++ [freeP p 0]) ∧ Dec (d ++ [-freeP p 0]) := by
  obtain ⟨hok, hle⟩ := prop_grow 13 _ (asgL_ok d zeroP_ok) hc p hp
  obtain ⟨k, h1, h2, h3, _⟩ := freeP_pos p 0 hf
  rw [hok.1] at h1
  have hl : lit12 (freeP p 0) := ⟨hf, by omega, by omega⟩
  have hn : lit12 (-freeP p 0) := ⟨by omega, by omega, by omega⟩
  have h0 : stt (asgL zeroP d) (freeP p 0) = 0 := by
    apply Classical.byContradiction
    intro hne
    have := leP_stt hle hl hne
    have h4 : stt p (freeP p 0) = 0 := by
      unfold stt
      rw [if_pos (by omega), show (freeP p 0 - 1).toNat = k by omega, h3]
    omega
  refine ⟨hl, hn, h.snoc hl h0, h.snoc hn (by rw [stt_neg _ hf]; omega)⟩
/-! what a clause says -/
theorem neg_any {v : List Bool} : ∀ (d : List Int), (∀ l ∈ d, lit12 l) → ((negL d).any (trueL v)) = !(d.all (trueL v))
  | [], _ => rfl
  | l :: d, h => by
    have := neg_any (v := v) d fun x hx => h x (by simp [hx])
    unfold negL at *
    rw [List.map_cons, List.any_cons, this, List.all_cons, trueL_neg v (h l (by simp)).1]
    cases trueL v l <;> rfl
theorem clT_any {ls : List Int} (h : clOk ls = true) (v : List Bool) : ∀ n : Nat, 0 ≤ sumV v (clT ls n) ∧ (1 ≤ sumV v (clT ls n) ↔ ∃ l ∈ ls, absI l ≤ (n : Int) ∧ trueL v l = true)
  | 0 => by
    refine ⟨by simp [clT, sumV, sumR], ?_⟩
    constructor
    · intro h1; simp [clT, sumV, sumR] at h1
    · rintro ⟨l, hl, h1, _⟩
      have := ((clOk_iff.1 h) l hl).1.1
      unfold absI at h1; omega
  | n + 1 => by
    obtain ⟨h0, h1⟩ := clT_any h v n
    have hs : ∀ l ∈ ls, absI l = ((n + 1 : Nat) : Int) → seenAt ls ((n + 1 : Nat) : Int) = l := by
      intro l hl e
      obtain ⟨⟨l0, _, _⟩, hn⟩ := (clOk_iff.1 h) l hl
      unfold seenAt
      unfold absI at e
      simp only [List.contains_eq_mem, decide_eq_true_eq]
      by_cases hp : l > 0
      · have : ((n + 1 : Nat) : Int) = l := by omega
        rw [this, if_pos hl]
      · have e1 : ((n + 1 : Nat) : Int) = -l := by omega
        rw [e1, if_neg hn, Int.neg_neg, if_pos hl]
    have hm : seenAt ls ((n + 1 : Nat) : Int) ≠ 0 → seenAt ls ((n + 1 : Nat) : Int) ∈ ls ∧ absI (seenAt ls ((n + 1 : Nat) : Int)) = ((n + 1 : Nat) : Int) := by
      unfold seenAt
      simp only [List.contains_eq_mem, decide_eq_true_eq]
      split
      · rename_i e; intro _; exact ⟨e, by unfold absI; omega⟩
      · split
        · rename_i e; intro _; exact ⟨e, by unfold absI; omega⟩
        · intro h; exact absurd rfl h
    rw [clT]
    by_cases e : seenAt ls ((n + 1 : Nat) : Int) ≠ 0
    · rw [if_pos e, sumV_snoc]
      obtain ⟨m1, m2⟩ := hm e
      simp only
      by_cases ht : trueL v (seenAt ls ((n + 1 : Nat) : Int)) = true
      · rw [if_pos ht]
        exact ⟨by omega, fun _ => ⟨_, m1, by omega, ht⟩, fun _ => by omega⟩
      · rw [if_neg ht]
        refine ⟨h0, h1.trans ⟨?_, ?_⟩⟩
        · rintro ⟨l, a1, a2, a3⟩; exact ⟨l, a1, by omega, a3⟩
        · rintro ⟨l, a1, a2, a3⟩
          refine ⟨l, a1, ?_, a3⟩
          by_cases ee : absI l = ((n + 1 : Nat) : Int)
          · rw [hs l a1 ee] at ht; exact absurd a3 ht
          · omega
    · rw [if_neg e, List.append_nil]
      refine ⟨h0, h1.trans ⟨?_, ?_⟩⟩
      · rintro ⟨l, a1, a2, a3⟩; exact ⟨l, a1, by omega, a3⟩
      · rintro ⟨l, a1, a2, a3⟩
        refine ⟨l, a1, ?_, a3⟩
        by_cases ee : absI l = ((n + 1 : Nat) : Int)
        · rw [hs l a1 ee] at e
          have := ((clOk_iff.1 h) l a1).1.1
          omega
        · omega
theorem clC_eval {ls : List Int} (h : clOk ls = true) (v : List Bool) : evalC (clC ls) v = ls.any (trueL v) := by
  unfold evalC clC
  rw [Bool.eq_iff_iff, decide_eq_true_eq, List.any_eq_true]
  refine ((clT_any h v 12).2).trans ⟨?_, ?_⟩
  · rintro ⟨l, a1, a2, a3⟩; exact ⟨l, a1, a3⟩
  · rintro ⟨l, a1, a3⟩
    refine ⟨l, a1, ?_, a3⟩
    obtain ⟨_, h1, h2⟩ := ((clOk_iff.1 h) l a1).1
    unfold absI; omega
theorem negL_lit {d : List Int} (h : ∀ l ∈ d, lit12 l) : ∀ l ∈ negL d, lit12 l := by
  intro l hl
  obtain ⟨x, hx, rfl⟩ := List.mem_map.1 hl
  obtain ⟨h0, h1, h2⟩ := h x hx
  exact ⟨by omega, by omega, by omega⟩
theorem negL_dis {d : List Int} (h : distinctA d) : distinctA (negL d) := by
  unfold distinctA negL at *
  rw [List.map_map]
  have : (absI ∘ fun l => -l) = absI := by funext l; exact absI_neg l
  rw [this]; exact h
theorem okTerms_snoc' {t : Term} (ht : okT t = true) {n : Int} (hn : n < absI t.lit) : ∀ (xs : List Term) (b : Int), okTerms b xs = true → (∀ x ∈ xs, absI x.lit ≤ n) → b ≤ n → okTerms b (xs ++ [t]) = true
  | [], b, _, _, hb => by
    show (okT t && decide (b < absI t.lit)) && true = true
    rw [ht, decide_eq_true (by omega)]; rfl
  | x :: xs, b, h, hx, hb => by
    rw [okTerms, Bool.and_eq_true, Bool.and_eq_true] at h
    show ((okT x && decide (b < absI x.lit)) && okTerms (absI x.lit) (xs ++ [t])) = true
    rw [h.1.1, h.1.2, okTerms_snoc' ht hn xs _ h.2 (fun y hy => hx y (by simp [hy])) (hx x (by simp))]; rfl
theorem clT_ok {ls : List Int} (h : clOk ls = true) : ∀ n : Nat, n ≤ 12 → okTerms 0 (clT ls n) = true ∧ ∀ t ∈ clT ls n, absI t.lit ≤ (n : Int)
  | 0, _ => ⟨rfl, by simp [clT]⟩
  | n + 1, hn => by
    obtain ⟨h1, h2⟩ := clT_ok h n (by omega)
    rw [clT]
    by_cases e : seenAt ls ((n + 1 : Nat) : Int) ≠ 0
    · rw [if_pos e]
      have e2 : absI (seenAt ls ((n + 1 : Nat) : Int)) = ((n + 1 : Nat) : Int) := by
        revert e
        unfold seenAt
        split
        · intro _; unfold absI; omega
        · split
          · intro _; unfold absI; omega
          · intro h; exact absurd rfl h
      have e3 : okT ⟨1, seenAt ls ((n + 1 : Nat) : Int)⟩ = true := by
        revert e e2
        generalize seenAt ls ((n + 1 : Nat) : Int) = a
        intro e e2
        unfold absI at e2
        unfold okT
        simp
        omega
      refine ⟨okTerms_snoc' e3 (n := (n : Int)) (by simp only [e2]; omega) _ 0 h1 h2 (by omega), ?_⟩
      intro t ht
      rcases List.mem_append.1 ht with ht | ht
      · have := h2 t ht; omega
      · rw [List.mem_singleton] at ht; subst ht; simp only [e2]; omega
    · rw [if_neg e, List.append_nil]
      exact ⟨h1, fun t ht => by have := h2 t ht; omega⟩
theorem clC_ok {ls : List Int} (h : clOk ls = true) : okCon (clC ls) = true := by
  unfold okCon clC
  simp only [(clT_ok h 12 (by omega)).1]
  rfl
end Go.L
