/- Addition and covering, on both sides; sound. -/
import Derived.Test.YteeilbddjlpiaaaGreatK31
namespace Go.L
open Go Go.E
set_option linter.unusedVariables false
set_option linter.unusedSimpArgs false
set_option maxRecDepth 100000
/-! the net coefficients of variables -/
def con1 (k : Int) (t : Term) : Int := if t.lit = k then t.coef else if t.lit = -k then -t.coef else 0
def netF (ts : List Term) (k : Int) : Int := sumR (con1 k) ts
def negS (ts : List Term) : Int := sumR (fun t => if t.lit < 0 then t.coef else 0) ts
def okLit (t : Term) : Prop := lit12 t.lit ∧ -1000 ≤ t.coef ∧ t.coef ≤ 1000
theorem sumR_abs {f : Term → Int} : ∀ (ts : List Term), (∀ t ∈ ts, -1000 ≤ f t ∧ f t ≤ 1000) → -(1000 * (ts.length : Int)) ≤ sumR f ts ∧ sumR f ts ≤ 1000 * ts.length
  | [], _ => by simp [sumR]
  | t :: ts, h => by
    have h1 := h t (by simp)
    have := sumR_abs (f := f) ts fun u hu => h u (by simp [hu])
    simp only [sumR, List.length_cons]; omega
theorem netF_bound {ts : List Term} (h : ∀ t ∈ ts, okLit t) (hl : ts.length ≤ 100) (k : Int) : -100000 ≤ netF ts k ∧ netF ts k ≤ 100000 := by
  have := sumR_abs (f := con1 k) ts fun t ht => by
    obtain ⟨_, h1, h2⟩ := h t ht
    unfold con1
    split
    · omega
    · split <;> omega
  unfold netF
  omega
theorem negS_bound {ts : List Term} (h : ∀ t ∈ ts, okLit t) (hl : ts.length ≤ 100) : -100000 ≤ negS ts ∧ negS ts ≤ 100000 := by
  have := sumR_abs (f := fun t => if t.lit < 0 then t.coef else 0) ts fun t ht => by
    obtain ⟨_, h1, h2⟩ := h t ht
    split <;> omega
  unfold negS
  omega
def rowN (ts : List Term) : List Int := (List.range 13).map fun (k : Nat) => netF ts (k : Int)
theorem rowN_len (ts : List Term) : (rowN ts).length = 13 := by simp [rowN]
theorem rowN_get (ts : List Term) (k : Nat) (h : k < 13) : (rowN ts)[k]? = some (netF ts (k : Int)) := by
  unfold rowN
  rw [List.getElem?_map, List.getElem?_range h]
  rfl
theorem netF_snoc (ts : List Term) (t : Term) (k : Int) : netF (ts ++ [t]) k = netF ts k + con1 k t := sumR_snoc _ _ _
theorem negS_snoc (ts : List Term) (t : Term) : negS (ts ++ [t]) = negS ts + (if t.lit < 0 then t.coef else 0) := sumR_snoc _ _ _
theorem row_set (ts : List Term) (t : Term) (ht : okLit t) (k : Nat) (hk : (k : Int) = absI t.lit) (y : Int) (hy : y = netF ts (k : Int) + (if t.lit > 0 then t.coef else -t.coef)) : (rowN ts).set k y = rowN (ts ++ [t]) := by
  obtain ⟨⟨h0, h1, h2⟩, _, _⟩ := ht
  unfold absI at hk
  apply List.ext_getElem?
  intro j
  by_cases hj : j < 13
  · rw [rowN_get _ _ hj, List.getElem?_set, netF_snoc, rowN_get _ _ hj, rowN_len]
    by_cases e : k = j
    · subst e
      rw [if_pos rfl, if_pos hj, hy]
      unfold con1
      congr 2
      split
      · rw [if_pos (by omega)]
      · rw [if_neg (by omega), if_pos (by omega)]
    · rw [if_neg e]
      unfold con1
      rw [if_neg (by omega), if_neg (by omega)]
      simp
  · rw [List.getElem?_eq_none (by rw [List.length_set, rowN_len]; omega), List.getElem?_eq_none (by rw [rowN_len]; omega)]
theorem net_loop {τ : Type} {b : Nat → Term → Int × List Int → Option (Lo (Int × List Int) τ)} (ts : List Term) (bound : Int) (hts : ∀ t ∈ ts, okLit t) (hl : ts.length ≤ 100) (hb0 : -100000 ≤ bound ∧ bound ≤ 100000)
    (hb : ∀ i t bd (xs : List Term), okLit t → xs.length ≤ 100 → (∀ t ∈ xs, okLit t) → -200000 ≤ bd ∧ bd ≤ 200000 → b i t (bd, rowN xs) = some (.cont (bd - (if t.lit < 0 then t.coef else 0), rowN (xs ++ [t])))) :
    rangeL b ts 0 (bound, rowN []) = some (.nx (bound - negS ts, rowN ts)) := by
  have := range_to (b := b) (fun i => (bound - negS (ts.take i), rowN (ts.take i))) ts (by
    intro i t ht
    have ho := hts t (List.mem_of_getElem? ht)
    have hoo : ∀ u ∈ ts.take i, okLit u := fun u hu => hts u (List.mem_of_mem_take hu)
    have hlen : (ts.take i).length ≤ 100 := by simp; omega
    have hn := negS_bound hoo hlen
    rw [hb i t _ _ ho hlen hoo (by omega), take_snoc ht, negS_snoc]
    congr 3
    omega)
  have e0 : (bound, rowN []) = (bound - negS (ts.take 0), rowN (ts.take 0)) := by
    have : negS (ts.take 0) = 0 := rfl
    rw [this]; simp
  rw [e0, this, List.take_length]
theorem rowN_nil : List.replicate 13 (0 : Int) = rowN [] := by decide
theorem i_net_round (i : Nat) (t : Term) (bd : Int) (xs : List Term) (ho : okLit t) (hl : xs.length ≤ 100) (hxs : ∀ t ∈ xs, okLit t) (hb : -200000 ≤ bd ∧ bd ≤ 200000) :
    i_normal_b1 i t (bd, rowN xs) = some (.cont (bd - (if t.lit < 0 then t.coef else 0), rowN (xs ++ [t]))) := by
  have ho' := ho
  obtain ⟨⟨h0, h1, h2⟩, h3, h4⟩ := ho
  rw [i_normal_b1]
  by_cases h : t.lit > 0
  · obtain ⟨k, hk⟩ : ∃ k : Nat, t.lit = (k : Int) := ⟨t.lit.toNat, by omega⟩
    have hn := netF_bound hxs hl (k : Int)
    rw [if_neg (by simp; omega), hk, idx_nat, rowN_get _ _ (by omega), Option.bind_some, Int.toNat_natCast, i64_id (by omega) (by omega), if_neg (by omega),
      row_set xs t ho' k (by unfold absI; omega) (netF xs (k : Int) + t.coef) (by rw [if_pos h])]
    simp
  · obtain ⟨k, hk⟩ : ∃ k : Nat, -t.lit = (k : Int) := ⟨(-t.lit).toNat, by omega⟩
    have hn := netF_bound hxs hl (k : Int)
    rw [if_pos (by simp; omega), i64_id (n := -t.lit) (by omega) (by omega), hk, idx_nat, rowN_get _ _ (by omega), Option.bind_some, Int.toNat_natCast, i64_id (n := bd - t.coef) (by omega) (by omega), i64_id (by omega) (by omega), if_pos (by omega),
      row_set xs t ho' k (by unfold absI; omega) (netF xs (k : Int) - t.coef) (by rw [if_neg h]; omega)]
    rfl
/-! the normal form -/
def piece (f : Int → Int) (k : Int) : List Term := if f k > 0 then [⟨f k, k⟩] else if f k < 0 then [⟨-f k, -k⟩] else []
def normT (f : Int → Int) : Nat → List Term
  | 0 => []
  | n + 1 => normT f n ++ piece f ((n + 1 : Nat) : Int)
def minS (f : Int → Int) : Nat → Int
  | 0 => 0
  | n + 1 => minS f n + min (f ((n + 1 : Nat) : Int)) 0
def normC (ts : List Term) (bound : Int) : Con × Bool := validC ⟨normT (netF ts) 12, max 0 (bound - negS ts - minS (netF ts) 12)⟩
theorem normT_len (f : Int → Int) : ∀ n, (normT f n).length ≤ n
  | 0 => Nat.le_refl _
  | n + 1 => by
    have := normT_len f n
    rw [normT, List.length_append]
    have : (piece f ((n + 1 : Nat) : Int)).length ≤ 1 := by
      unfold piece
      split
      · simp
      · split <;> simp
    omega
theorem minS_bound {f : Int → Int} (h : ∀ k, -100000 ≤ f k ∧ f k ≤ 100000) : ∀ n : Nat, -(100000 * (n : Int)) ≤ minS f n ∧ minS f n ≤ 0
  | 0 => by simp [minS]
  | n + 1 => by
    have h1 := minS_bound h n
    have h2 := h ((n + 1 : Nat) : Int)
    rw [minS]
    omega
theorem piece_round {f : Int → Int} (hf : ∀ k, -100000 ≤ f k ∧ f k ≤ 100000) (n : Nat) (hn : n < 12) (bd : Int) (hb : -10000000 ≤ bd ∧ bd ≤ 10000000) :
    (bd - min (f ((n + 1 : Nat) : Int)) 0, normT f (n + 1)) = (if f ((n + 1 : Nat) : Int) > 0 then (bd, normT f n ++ [⟨f ((n + 1 : Nat) : Int), ((n + 1 : Nat) : Int)⟩]) else if f ((n + 1 : Nat) : Int) < 0 then (bd - f ((n + 1 : Nat) : Int), normT f n ++ [⟨-f ((n + 1 : Nat) : Int), -((n + 1 : Nat) : Int)⟩]) else (bd, normT f n)) := by
  rw [normT]
  unfold piece
  split
  · rw [show min (f ((n + 1 : Nat) : Int)) 0 = 0 by omega]; simp
  · split
    · rw [show min (f ((n + 1 : Nat) : Int)) 0 = f ((n + 1 : Nat) : Int) by omega]
    · rw [show min (f ((n + 1 : Nat) : Int)) 0 = 0 by omega]; simp
theorem netF_zero {ts : List Term} (hts : ∀ t ∈ ts, okLit t) : netF ts 0 = 0 :=
  sumR_zero ts fun t ht => by
    have := (hts t ht).1.1
    unfold con1
    rw [if_neg (by omega), if_neg (by omega)]
theorem i_norm {ts : List Term} (hts : ∀ t ∈ ts, okLit t) (hl : ts.length ≤ 100) (bound : Int) (hb : -100000 ≤ bound ∧ bound ≤ 100000) : i_normal ts bound = some (normC ts bound) := by
  unfold i_normal
  have hns := negS_bound hts hl
  rw [rowN_nil, net_loop (b := i_normal_b1) ts bound hts hl hb i_net_round, Option.bind_some]
  simp only
  have e : cntF 0 13 = some 13 := cntF_nat (n := 13) (by omega)
  have hf := fun k => netF_bound hts hl k
  rw [e, Option.bind_some]
  generalize hbd : bound - negS ts = bd
  have hbd2 : -300000 ≤ bd ∧ bd ≤ 300000 := by omega
  have r0 : i_normal_b2 (rowN ts) 0 (bd, []) = some (.cont (bd, [])) := by
    rw [i_normal_b2, idx_nat, rowN_get _ _ (by omega), Option.bind_some]
    have z : netF ts ((0 : Nat) : Int) = 0 := netF_zero hts
    rw [z]
    rfl
  have := count_to (b := i_normal_b2 (rowN ts)) (fun i => (bd - minS (netF ts) (i - 1), normT (netF ts) (i - 1))) 12 1 (by
    intro i h1 h2
    obtain ⟨n, rfl⟩ : ∃ n, i = n + 1 := ⟨i - 1, by omega⟩
    simp only [Nat.add_sub_cancel]
    have hm := minS_bound hf n
    have hfn := hf ((n + 1 : Nat) : Int)
    have hnl := normT_len (netF ts) n
    have e2 : (bd - minS (netF ts) (n + 1), normT (netF ts) (n + 1)) = (bd - minS (netF ts) n - min (netF ts ((n + 1 : Nat) : Int)) 0, normT (netF ts) (n + 1)) := by rw [minS]; congr 1; omega
    rw [e2, piece_round hf n (by omega) _ (by omega), i_normal_b2, idx_nat, rowN_get _ _ (by omega), Option.bind_some]
    by_cases c1 : netF ts ((n + 1 : Nat) : Int) > 0
    · simp only [c1, decide_true, if_true]
      rw [app_le (by simp; omega)]
      rfl
    · by_cases c2 : netF ts ((n + 1 : Nat) : Int) < 0
      · simp only [c1, c2, decide_true, decide_false, if_true, Bool.false_eq_true, if_false]
        rw [app_le (by simp; omega), i64_id (n := -netF ts ((n + 1 : Nat) : Int)) (by omega) (by omega), i64_id (n := -((n + 1 : Nat) : Int)) (by omega) (by omega), Option.bind_some, i64_id (by omega) (by omega)]
        rfl
      · simp only [c1, c2, decide_false, Bool.false_eq_true, if_false, Option.bind_some])
  have e0 : (bd, ([] : List Term)) = (bd - minS (netF ts) (1 - 1), normT (netF ts) (1 - 1)) := by simp [minS, normT]
  have e13 : countL (i_normal_b2 (rowN ts)) 13 0 (bd, []) = some (.nx (bd - minS (netF ts) 12, normT (netF ts) 12)) := by
    show (i_normal_b2 (rowN ts) 0 (bd, [])).bind _ = _
    rw [r0]
    show countL (i_normal_b2 (rowN ts)) 12 1 (bd, []) = _
    rw [e0, this]
  rw [e13, Option.bind_some]
  simp only
  rw [i_valid2, Option.bind_some]
  unfold normC
  rw [hbd]
/-! addition -/
def addC (a b : Con) : Con × Bool := if okCon a && okCon b then normC (a.terms ++ b.terms) (a.bound + b.bound) else (zeroC, false)
theorem okT_okLit {t : Term} (h : okT t = true) : okLit t := by
  have := okT_lit h
  exact ⟨okT_lit12 h, by omega, by omega⟩
theorem add_parts {a b : Con} (ha : okCon a = true) (hb : okCon b = true) : (∀ t ∈ a.terms ++ b.terms, okLit t) ∧ (a.terms ++ b.terms).length ≤ 24 := by
  obtain ⟨_, a2, a3, _⟩ := okCon_parts ha
  obtain ⟨_, b2, b3, _⟩ := okCon_parts hb
  refine ⟨fun t ht => ?_, by simp; omega⟩
  rcases List.mem_append.1 ht with h | h
  · exact okT_okLit (a3 t h)
  · exact okT_okLit (b3 t h)
theorem i_concat (xs ys : List Term) (h1 : xs.length ≤ 1000) (h2 : ys.length ≤ 1000) : slices_Concat_implTerm [xs, ys] = some (xs ++ ys) := by
  unfold slices_Concat_implTerm
  have hb : ∀ (i : Nat) (x : List Term) (s : Int), 0 ≤ s → s ≤ 1000000 → x.length ≤ 1000 → slices_Concat_implTerm_b1 i x s = some (.cont (s + (x.length : Int))) := fun i x s h1 h2 h3 => by
    rw [slices_Concat_implTerm_b1, i64_id (by omega) (by omega), if_neg (by simp; omega)]
    rfl
  have e1 : rangeL slices_Concat_implTerm_b1 [xs, ys] 0 0 = some (.nx ((xs.length : Int) + ys.length)) := by
    show (slices_Concat_implTerm_b1 0 xs 0).bind _ = _
    rw [hb 0 xs 0 (by omega) (by omega) h1]
    show (slices_Concat_implTerm_b1 1 ys (0 + (xs.length : Int))).bind _ = _
    rw [hb 1 ys _ (by omega) (by omega) h2]
    show some (Jn.nx (0 + (xs.length : Int) + (ys.length : Int))) = _
    rw [Int.zero_add]
  have e2 : slices_Concat_implTerm_i2 ((xs.length : Int) + ys.length) = some [] := by
    unfold slices_Concat_implTerm_i2
    have e0 : i64 (0 - 0) = 0 := i64_id (by omega) (by omega)
    rw [if_neg (by simp; omega), e0, Int.sub_zero, i64_id (by omega) (by omega)]
    simp only [Option.bind_some]
    by_cases h : (xs.length : Int) + ys.length > 0
    · rw [if_pos (decide_eq_true h)]
      have := mkN_le (n := xs.length + ys.length) ({ coef := 0, lit := 0 } : Term) (by omega)
      rw [show ((xs.length + ys.length : Nat) : Int) = (xs.length : Int) + ys.length by omega] at this
      rw [this, Option.bind_some]
      have := sl_pre (xs := List.replicate (xs.length + ys.length) ({ coef := 0, lit := 0 } : Term)) (i := 0) (by omega)
      rw [show ((0 : Nat) : Int) = 0 from rfl] at this
      rw [this]
      rfl
    · rw [if_neg (by simpa using h)]
      rfl
  rw [e1, Option.bind_some]
  simp only
  rw [e2, Option.bind_some]
  simp only [rangeL, slices_Concat_implTerm_b3]
  rw [app_le (by simp; omega)]
  simp only [Option.bind_some, List.nil_append]
  rw [app_le (by omega)]
  rfl
theorem i_add (a b : Con) : i_AddConstraints a b = some (addC a b) := by
  unfold i_AddConstraints addC
  rw [i_valid a, Option.bind_some]
  cases h1 : okCon a with
  | false => rfl
  | true =>
    rw [i_valid b]
    cases h2 : okCon b with
    | false => rfl
    | true =>
      obtain ⟨g1, g2⟩ := add_parts h1 h2
      obtain ⟨_, a2, a3, a4, a5⟩ := okCon_parts h1
      obtain ⟨_, b2, b3, b4, b5⟩ := okCon_parts h2
      simp only [Bool.not_true, Bool.false_eq_true, if_false, Option.bind_some, Bool.and_self, if_true]
      rw [i_concat _ _ (by omega) (by omega), Option.bind_some, i64_id (by omega) (by omega), i_norm g1 (by omega) _ (by omega)]
      generalize normC (a.terms ++ b.terms) (a.bound + b.bound) = z
      rfl
/-! addition is sound -/
def xv (v : List Bool) (k : Int) : Bool := v.getD (k - 1).toNat false
def sumK (g : Int → Int) : Nat → Int
  | 0 => 0
  | n + 1 => sumK g n + g ((n + 1 : Nat) : Int)
theorem sumK_add (f g : Int → Int) : ∀ n, sumK (fun k => f k + g k) n = sumK f n + sumK g n
  | 0 => rfl
  | n + 1 => by rw [sumK, sumK, sumK, sumK_add f g n]; omega
theorem sumK_one (g : Int → Int) (j : Nat) (hj : 1 ≤ j) : ∀ n, (∀ k : Nat, k ≠ j → g (k : Int) = 0) → sumK g n = if j ≤ n then g (j : Int) else 0
  | 0, _ => by rw [sumK, if_neg (by omega)]
  | n + 1, h => by
    rw [sumK, sumK_one g j hj n h]
    by_cases e : j = n + 1
    · subst e
      rw [if_neg (by omega), if_pos (Nat.le_refl _)]; omega
    · rw [h (n + 1) (by omega)]
      by_cases h2 : j ≤ n
      · rw [if_pos h2, if_pos (by omega)]; omega
      · rw [if_neg h2, if_neg (by omega)]; rfl
theorem sumK_zero (n : Nat) : sumK (fun _ => 0) n = 0 := by
  induction n with
  | zero => rfl
  | succ n ih => rw [sumK, ih]; rfl
theorem trueL_xv (v : List Bool) (k : Int) (h : 0 < k) : trueL v k = xv v k ∧ trueL v (-k) = !xv v k := by
  unfold trueL xv
  rw [if_pos h, if_neg (by omega), Int.neg_neg]
  exact ⟨rfl, rfl⟩
theorem net_sum (v : List Bool) : ∀ (ts : List Term), (∀ t ∈ ts, okLit t) → sumV v ts = sumK (fun k => if xv v k then netF ts k else 0) 12 + negS ts
  | [], _ => by
    have : (fun k => if xv v k then netF [] k else 0) = fun _ => (0 : Int) := by funext k; simp [netF, sumR]
    rw [this, sumK_zero]
    rfl
  | t :: ts, h => by
    have ih := net_sum v ts fun u hu => h u (by simp [hu])
    obtain ⟨⟨h0, h1, h2⟩, _, _⟩ := h t (by simp)
    have e : (fun k => if xv v k then netF (t :: ts) k else 0) = fun k => (if xv v k then con1 k t else 0) + (if xv v k then netF ts k else 0) := by
      funext k
      show (if xv v k then con1 k t + netF ts k else 0) = _
      cases xv v k <;> simp
    rw [e, sumK_add]
    show (if trueL v t.lit then t.coef else 0) + sumV v ts = _ + ((if t.lit < 0 then t.coef else 0) + negS ts)
    obtain ⟨j, hj⟩ : ∃ j : Nat, absI t.lit = (j : Int) := ⟨(absI t.lit).toNat, by unfold absI; omega⟩
    unfold absI at hj
    have hz : ∀ k : Nat, k ≠ j → con1 (k : Int) t = 0 := fun k hk => by
      unfold con1
      rw [if_neg (by omega), if_neg (by omega)]
    rw [sumK_one _ j (by omega) 12 fun k hk => by rw [hz k hk]; simp, if_pos (c := j ≤ 12) (by omega)]
    by_cases hp : t.lit > 0
    · have ej : t.lit = (j : Int) := by omega
      have hc : con1 (j : Int) t = t.coef := by unfold con1; rw [if_pos ej]
      rw [hc, ej, (trueL_xv v (j : Int) (by omega)).1, if_neg (c := (j : Int) < 0) (by omega)]
      omega
    · have ej : t.lit = -(j : Int) := by omega
      have hc : con1 (j : Int) t = -t.coef := by unfold con1; rw [if_neg (by omega), if_pos ej]
      rw [hc, ej, (trueL_xv v (j : Int) (by omega)).2, if_pos (c := -(j : Int) < 0) (by omega)]
      cases xv v (j : Int) <;> simp <;> omega
theorem sumV_app (v : List Bool) (xs ys : List Term) : sumV v (xs ++ ys) = sumV v xs + sumV v ys := by
  unfold sumV
  induction xs with
  | nil => simp [sumR]
  | cons t xs ih => rw [List.cons_append, sumR, ih, sumR]; omega
theorem piece_sum (v : List Bool) (f : Int → Int) (k : Int) (hk : 0 < k) : sumV v (piece f k) = (if xv v k then f k else 0) - min (f k) 0 := by
  have ht := trueL_xv v k hk
  generalize hy : f k = y
  unfold piece
  rw [hy]
  split
  · simp only [sumV, sumR]
    rw [ht.1]
    omega
  · split
    · simp only [sumV, sumR]
      rw [ht.2]
      cases xv v k <;> simp <;> omega
    · simp only [sumV, sumR]
      split <;> omega
theorem norm_sum (v : List Bool) (f : Int → Int) : ∀ n, sumV v (normT f n) = sumK (fun k => if xv v k then f k else 0) n - minS f n
  | 0 => rfl
  | n + 1 => by
    rw [normT, sumV_app, norm_sum v f n, sumK, minS]
    have e := piece_sum v f ((n + 1 : Nat) : Int) (by omega)
    omega
theorem sumV_nonneg (v : List Bool) : ∀ (ts : List Term), (∀ t ∈ ts, okT t = true) → 0 ≤ sumV v ts := fun ts h => (sumV_bound v ts h).1
theorem normC_ok {ts : List Term} (hts : ∀ t ∈ ts, okLit t) {bound : Int} {d : Con} (h : normC ts bound = (d, true)) : okCon d = true ∧ ∀ v, sumV v ts ≥ bound → evalC d v = true := by
  unfold normC validC at h
  split at h
  · rename_i hd
    simp only [Prod.mk.injEq, and_true] at h
    subst h
    refine ⟨hd, fun v hv => ?_⟩
    have hn := sumV_nonneg v _ (okCon_parts hd).2.2.1
    have h1 := norm_sum v (netF ts) 12
    have h2 := net_sum v ts hts
    unfold evalC
    simp only at hn ⊢
    simp
    omega
  · cases h
theorem addC_ok {a b d : Con} (h : addC a b = (d, true)) : okCon d = true ∧ ∀ v, evalC a v = true → evalC b v = true → evalC d v = true := by
  unfold addC at h
  split at h
  · rename_i hc
    rw [Bool.and_eq_true] at hc
    obtain ⟨g1, g2⟩ := add_parts hc.1 hc.2
    obtain ⟨h1, h2⟩ := normC_ok g1 h
    refine ⟨h1, fun v ha hb => h2 v ?_⟩
    unfold evalC at ha hb
    simp at ha hb
    rw [sumV_app]
    omega
  · cases h
end Go.L
