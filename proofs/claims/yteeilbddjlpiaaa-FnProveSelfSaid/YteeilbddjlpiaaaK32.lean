/- Addition and covering, on both sides; sound. -/
import Derived.Test.YteeilbddjlpiaaaK31
namespace Go.L
open Go Go.E
set_option linter.unusedVariables false
set_option linter.unusedSimpArgs false
set_option maxRecDepth 100000
/-! the net coefficients of variables -/
def con1 (k : Int) (t : Term) : Int := if t.lit = k then t.coef else if t.lit = -k then -t.coef else 0
def netF (ts : List Term) (k : Int) : Int := sumR (con1 k) ts
def negS (ts : List Term) : Int := sumR (fun t => if t.lit < 0 then t.coef else 0) ts
def okLit (t : Term) : Prop := lit12 t.lit ∧ -1000 ≤ t.coef ∧ t.coef ≤ 1000
theorem sumR_abs {f : Term → Int} : ∀ (ts : List Term), (∀ t ∈ ts, -1000 ≤ f t ∧ f t ≤ 1000) → -(1000 * (ts.length : Int)) ≤ sumR f ts ∧ sumR f ts ≤ 1000 * ts.length
  | [], _ => by simp [sumR]
  | t :: ts, h => by
    have h1 := h t (by simp)
    have := sumR_abs (f := f) ts fun u hu => h u (by simp [hu])
    simp only [sumR, List.length_cons]; omega
theorem netF_bound {ts : List Term} (h : ∀ t ∈ ts, okLit t) (hl : ts.length ≤ 100) (k : Int) : -100000 ≤ netF ts k ∧ netF ts k ≤ 100000 := by
  have := sumR_abs (f := con1 k) ts fun t ht => by
    obtain ⟨_, h1, h2⟩ := h t ht
    unfold con1
    split
    · omega
    · split <;> omega
  unfold netF
  omega
theorem negS_bound {ts : List Term} (h : ∀ t ∈ ts, okLit t) (hl : ts.length ≤ 100) : -100000 ≤ negS ts ∧ negS ts ≤ 100000 := by
  have := sumR_abs (f := fun t => if t.lit < 0 then t.coef else 0) ts fun t ht => by
    obtain ⟨_, h1, h2⟩ := h t ht
    split <;> omega
  unfold negS
  omega
def rowN (ts : List Term) : List Int := (List.range 13).map fun (k : Nat) => netF ts (k : Int)
theorem rowN_len (ts : List Term) : (rowN ts).length = 13 := by simp [rowN]
theorem rowN_get (ts : List Term) (k : Nat) (h : k < 13) : (rowN ts)[k]? = some (netF ts (k : Int)) := by
  unfold rowN
  rw [List.getElem?_map, List.getElem?_range h]
  rfl
theorem netF_snoc (ts : List Term) (t : Term) (k : Int) : netF (ts ++ [t]) k = netF ts k + con1 k t := sumR_snoc _ _ _
theorem negS_snoc (ts : List Term) (t : Term) : negS (ts ++ [t]) = negS ts + (if t.lit < 0 then t.coef else 0) := sumR_snoc _ _ _
theorem row_set (ts : List Term) (t : Term) (ht : okLit t) (k : Nat) (hk : (k : Int) = absI t.lit) (y : Int) (hy : y = netF ts (k : Int) + (if t.lit > 0 then t.coef else -t.coef)) : (rowN ts).set k y = rowN (ts ++ [t]) := by
  obtain ⟨⟨h0, h1, h2⟩, _, _⟩ := ht
  unfold absI at hk
  apply List.ext_getElem?
  intro j
  by_cases hj : j < 13
  · rw [rowN_get _ _ hj, List.getElem?_set, netF_snoc, rowN_get _ _ hj, rowN_len]
    by_cases e : k = j
    · subst e
      rw [if_pos rfl, if_pos hj, hy]
      unfold con1
      congr 2
      split
      · rw [if_pos (by omega)]
      · rw [if_neg (by omega), if_pos (by omega)]
    · rw [if_neg e]
      unfold con1
      rw [if_neg (by omega), if_neg (by omega)]
      simp
  · rw [List.getElem?_eq_none (by rw [List.length_set, rowN_len]; omega), List.getElem?_eq_none (by rw [rowN_len]; omega)]
theorem net_loop {τ : Type} {b : Nat → Term → Int × List Int → Option (Lo (Int × List Int) τ)} (ts : List Term) (bound : Int) (hts : ∀ t ∈ ts, okLit t) (hl : ts.length ≤ 100) (hb0 : -100000 ≤ bound ∧ bound ≤ 100000)
    (hb : ∀ i t bd (xs : List Term), okLit t → xs.length ≤ 100 → (∀ t ∈ xs, okLit t) → -200000 ≤ bd ∧ bd ≤ 200000 → b i t (bd, rowN xs) = some (.cont (bd - (if t.lit < 0 then t.coef else 0), rowN (xs ++ [t])))) :
    rangeL b ts 0 (bound, rowN []) = some (.nx (bound - negS ts, rowN ts)) := by
  have := range_to (b := b) (fun i => (bound - negS (ts.take i), rowN (ts.take i))) ts (by
    intro i t ht
    have ho := hts t (List.mem_of_getElem? ht)
    have hoo : ∀ u ∈ ts.take i, okLit u := fun u hu => hts u (List.mem_of_mem_take hu)
    have hlen : (ts.take i).length ≤ 100 := by simp; omega
    have hn := negS_bound hoo hlen
    rw [hb i t _ _ ho hlen hoo (by omega), take_snoc ht, negS_snoc]
    congr 3
    omega)
  have e0 : (bound, rowN []) = (bound - negS (ts.take 0), rowN (ts.take 0)) := by
    have : negS (ts.take 0) = 0 := rfl
    rw [this]; simp
  rw [e0, this, List.take_length]
theorem rowN_nil : List.replicate 13 (0 : Int) = rowN [] := by decide
theorem mkRow0 : mkN 13 (0 : Int) = some (rowN []) := by rw [← rowN_nil]; exact mkN_le (n := 13) (0 : Int) (by omega)
theorem s_net_round (i : Nat) (t : Term) (bd : Int) (xs : List Term) (ho : okLit t) (hl : xs.length ≤ 100) (hxs : ∀ t ∈ xs, okLit t) (hb : -200000 ≤ bd ∧ bd ≤ 200000) :
    s_l1Net_b1 i t (bd, rowN xs) = some (.cont (bd - (if t.lit < 0 then t.coef else 0), rowN (xs ++ [t]))) := by
  have ho' := ho
  obtain ⟨⟨h0, h1, h2⟩, h3, h4⟩ := ho
  rw [s_l1Net_b1]
  by_cases h : t.lit > 0
  · obtain ⟨k, hk⟩ : ∃ k : Nat, t.lit = (k : Int) := ⟨t.lit.toNat, by omega⟩
    have hn := netF_bound hxs hl (k : Int)
    rw [if_pos (decide_eq_true h), hk, idx_nat, rowN_get _ _ (by omega), Option.bind_some, Int.toNat_natCast, i64_id (by omega) (by omega), if_neg (by omega),
      row_set xs t ho' k (by unfold absI; omega) (netF xs (k : Int) + t.coef) (by rw [if_pos h])]
    simp
  · obtain ⟨k, hk⟩ : ∃ k : Nat, -t.lit = (k : Int) := ⟨(-t.lit).toNat, by omega⟩
    have hn := netF_bound hxs hl (k : Int)
    rw [if_neg (by simpa using h), i64_id (n := -t.lit) (by omega) (by omega), hk, idx_nat, rowN_get _ _ (by omega), Option.bind_some, Int.toNat_natCast, i64_id (n := bd - t.coef) (by omega) (by omega), i64_id (by omega) (by omega), if_pos (by omega),
      row_set xs t ho' k (by unfold absI; omega) (netF xs (k : Int) - t.coef) (by rw [if_neg h]; omega)]
    rfl
/-! the normal form -/
def piece (f : Int → Int) (k : Int) : List Term := if f k > 0 then [⟨f k, k⟩] else if f k < 0 then [⟨-f k, -k⟩] else []
def normT (f : Int → Int) : Nat → List Term
  | 0 => []
  | n + 1 => normT f n ++ piece f ((n + 1 : Nat) : Int)
def minS (f : Int → Int) : Nat → Int
  | 0 => 0
  | n + 1 => minS f n + min (f ((n + 1 : Nat) : Int)) 0
def normC (ts : List Term) (bound : Int) : Con × Bool := validC ⟨normT (netF ts) 12, max 0 (bound - negS ts - minS (netF ts) 12)⟩
theorem normT_len (f : Int → Int) : ∀ n, (normT f n).length ≤ n
  | 0 => Nat.le_refl _
  | n + 1 => by
    have := normT_len f n
    rw [normT, List.length_append]
    have : (piece f ((n + 1 : Nat) : Int)).length ≤ 1 := by
      unfold piece
      split
      · simp
      · split <;> simp
    omega
theorem minS_bound {f : Int → Int} (h : ∀ k, -100000 ≤ f k ∧ f k ≤ 100000) : ∀ n : Nat, -(100000 * (n : Int)) ≤ minS f n ∧ minS f n ≤ 0
  | 0 => by simp [minS]
  | n + 1 => by
    have h1 := minS_bound h n
    have h2 := h ((n + 1 : Nat) : Int)
    rw [minS]
    omega
theorem piece_round {f : Int → Int} (hf : ∀ k, -100000 ≤ f k ∧ f k ≤ 100000) (n : Nat) (hn : n < 12) (bd : Int) (hb : -10000000 ≤ bd ∧ bd ≤ 10000000) :
    (bd - min (f ((n + 1 : Nat) : Int)) 0, normT f (n + 1)) = (if f ((n + 1 : Nat) : Int) > 0 then (bd, normT f n ++ [⟨f ((n + 1 : Nat) : Int), ((n + 1 : Nat) : Int)⟩]) else if f ((n + 1 : Nat) : Int) < 0 then (bd - f ((n + 1 : Nat) : Int), normT f n ++ [⟨-f ((n + 1 : Nat) : Int), -((n + 1 : Nat) : Int)⟩]) else (bd, normT f n)) := by
  rw [normT]
  unfold piece
  split
  · rw [show min (f ((n + 1 : Nat) : Int)) 0 = 0 by omega]; simp
  · split
    · rw [show min (f ((n + 1 : Nat) : Int)) 0 = f ((n + 1 : Nat) : Int) by omega]
    · rw [show min (f ((n + 1 : Nat) : Int)) 0 = 0 by omega]; simp
theorem s_norm {ts : List Term} (hts : ∀ t ∈ ts, okLit t) (hl : ts.length ≤ 100) (bd : Int) (hb : -300000 ≤ bd ∧ bd ≤ 300000) : s_l1Normal (rowN ts) bd = some (validC ⟨normT (netF ts) 12, max 0 (bd - minS (netF ts) 12)⟩) := by
  unfold s_l1Normal
  have e : cntF 1 (12 + 1) = some 12 := by rw [cntF_of (s := 1) (by omega) (by omega)]; congr 1
  have hf := fun k => netF_bound hts hl k
  rw [e, Option.bind_some]
  have := count_to (b := s_l1Normal_b1 (rowN ts)) (fun i => (bd - minS (netF ts) (i - 1), normT (netF ts) (i - 1))) 12 1 (by
    intro i h1 h2
    obtain ⟨n, rfl⟩ : ∃ n, i = n + 1 := ⟨i - 1, by omega⟩
    simp only [Nat.add_sub_cancel]
    have hm := minS_bound hf n
    have hfn := hf ((n + 1 : Nat) : Int)
    have hnl := normT_len (netF ts) n
    have e2 : (bd - minS (netF ts) (n + 1), normT (netF ts) (n + 1)) = (bd - minS (netF ts) n - min (netF ts ((n + 1 : Nat) : Int)) 0, normT (netF ts) (n + 1)) := by rw [minS]; congr 1; omega
    rw [e2, piece_round hf n (by omega) _ (by omega), s_l1Normal_b1, idx_nat, rowN_get _ _ (by omega), Option.bind_some]
    by_cases c1 : netF ts ((n + 1 : Nat) : Int) > 0
    · have c2 : ¬ netF ts ((n + 1 : Nat) : Int) < 0 := by omega
      simp only [c1, c2, decide_true, decide_false, if_true, Bool.false_eq_true, if_false]
      rw [app_le (by simp; omega)]
      rfl
    · by_cases c2 : netF ts ((n + 1 : Nat) : Int) < 0
      · simp only [c1, c2, decide_true, decide_false, if_true, Bool.false_eq_true, if_false, Option.bind_some]
        rw [app_le (by simp; omega), i64_id (n := -netF ts ((n + 1 : Nat) : Int)) (by omega) (by omega), i64_id (n := -((n + 1 : Nat) : Int)) (by omega) (by omega), Option.bind_some, i64_id (by omega) (by omega)]
        rfl
      · simp only [c1, c2, decide_false, Bool.false_eq_true, if_false, Option.bind_some])
  have e0 : (bd, ([] : List Term)) = (bd - minS (netF ts) (1 - 1), normT (netF ts) (1 - 1)) := by simp [minS, normT]
  rw [e0, this, Option.bind_some]
  simp only [show 1 + 12 - 1 = 12 from rfl]
  have hnl := normT_len (netF ts) 12
  have em : (if decide (bd - minS (netF ts) 12 < 0) then (some 0) else (some (bd - minS (netF ts) 12)) : Option Int) = some (max 0 (bd - minS (netF ts) 12)) := by
    by_cases h : bd - minS (netF ts) 12 < 0
    · rw [if_pos (decide_eq_true h)]; congr 1; omega
    · rw [if_neg (by simpa using h)]; congr 1; omega
  rw [em, Option.bind_some, s_valid _ (by unfold ML; simp only; omega), Option.bind_some, validC]
  cases okCon ⟨normT (netF ts) 12, max 0 (bd - minS (netF ts) 12)⟩ <;> rfl
/-! addition -/
def addC (a b : Con) : Con × Bool := if okCon a && okCon b then normC (a.terms ++ b.terms) (a.bound + b.bound) else (zeroC, false)
theorem okT_okLit {t : Term} (h : okT t = true) : okLit t := by
  have := okT_lit h
  exact ⟨okT_lit12 h, by omega, by omega⟩
theorem add_parts {a b : Con} (ha : okCon a = true) (hb : okCon b = true) : (∀ t ∈ a.terms ++ b.terms, okLit t) ∧ (a.terms ++ b.terms).length ≤ 24 := by
  obtain ⟨_, a2, a3, _⟩ := okCon_parts ha
  obtain ⟨_, b2, b3, _⟩ := okCon_parts hb
  refine ⟨fun t ht => ?_, by simp; omega⟩
  rcases List.mem_append.1 ht with h | h
  · exact okT_okLit (a3 t h)
  · exact okT_okLit (b3 t h)
theorem s_add (a b : Con) (ha : a.terms.length ≤ ML) (hb : b.terms.length ≤ ML) : s_AddConstraints a b = some (addC a b) := by
  unfold s_AddConstraints addC
  rw [s_valid a ha, Option.bind_some]
  cases h1 : okCon a with
  | false => rfl
  | true =>
    rw [s_valid b hb]
    cases h2 : okCon b with
    | false => rfl
    | true =>
      obtain ⟨g1, g2⟩ := add_parts h1 h2
      have hns := negS_bound g1 (by omega)
      obtain ⟨_, a2, a3, a4, a5⟩ := okCon_parts h1
      obtain ⟨_, b2, b3, b4, b5⟩ := okCon_parts h2
      simp only [Bool.not_true, Bool.false_eq_true, if_false, Option.bind_some, Bool.and_self, if_true]
      rw [app_le (by simp; omega), Option.bind_some, List.nil_append, app_le (by omega), Option.bind_some, i64_id (by omega) (by omega)]
      unfold s_l1Net
      rw [mkRow0, Option.bind_some, net_loop (b := s_l1Net_b1) _ _ g1 (by omega) (by omega) s_net_round, Option.bind_some]
      simp only [Option.bind_some]
      rw [s_norm g1 (by omega) _ (by omega)]
      rfl
end Go.L
