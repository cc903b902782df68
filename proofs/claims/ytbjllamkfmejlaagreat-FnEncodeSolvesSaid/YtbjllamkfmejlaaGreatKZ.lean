/- The plain law: what the functions compute, and that it answers as the statement says. -/
import Derived.Test.YtbjllamkfmejlaaGreatKA
namespace Go.L
open Go Go.E
set_option linter.unusedVariables false
set_option linter.unusedSimpArgs false
set_option maxRecDepth 100000
/-! all rows are enumerated -/
theorem rem_inj : ∀ {ss as bs : List Int}, fit ss as → fit ss bs → rem ss as = rem ss bs → as = bs
  | [], [], [], _, _, _ => rfl
  | s :: ss, a :: as, b :: bs, ha, hb, h => by
    obtain ⟨⟨a0, a1⟩, a2⟩ := ha
    obtain ⟨⟨b0, b1⟩, b2⟩ := hb
    have l1 := rem_lt a2
    have l2 := rem_lt b2
    rw [rem, rem] at h
    have hp := prodS_pos ss
    have e1 : (s - a).toNat = (s - b).toNat := by
      have h1 : ((s - a).toNat * prodS ss + rem ss as) / prodS ss = (s - a).toNat := by
        rw [Nat.mul_comm, Nat.mul_add_div hp, Nat.div_eq_of_lt l1, Nat.add_zero]
      have h2 : ((s - b).toNat * prodS ss + rem ss bs) / prodS ss = (s - b).toNat := by
        rw [Nat.mul_comm, Nat.mul_add_div hp, Nat.div_eq_of_lt l2, Nat.add_zero]
      rw [← h1, ← h2, h]
    have e2 : a = b := by omega
    subst e2
    rw [rem_inj a2 b2 (by omega)]
theorem enum_mem : ∀ (d : Nat) {ss cs c : List Int}, fit ss cs → fit ss c → rem ss c + d = rem ss cs → c ∈ enumC ss cs
  | 0, ss, cs, c, h1, h2, h => by
    have := rem_inj h2 h1 (by omega)
    subst this
    cases hn : nextC ss c with
    | none => rw [enum_none h1 hn]; simp
    | some t => rw [enum_some h1 hn]; simp
  | d + 1, ss, cs, c, h1, h2, h => by
    cases hn : nextC ss cs with
    | none => have := next_none h1 hn; omega
    | some t =>
      obtain ⟨ht, hrt⟩ := next_some h1 hn
      rw [enum_some h1 hn]
      exact List.mem_cons_of_mem _ (enum_mem d ht h2 (by omega))
theorem enum_fits : ∀ (k : Nat) {ss cs : List Int}, rem ss cs = k → fit ss cs → ∀ c ∈ enumC ss cs, fit ss c
  | k, ss, cs, hr, hf, c, hc => by
    cases hn : nextC ss cs with
    | none => rw [enum_none hf hn] at hc; simp at hc; subst hc; exact hf
    | some t =>
      obtain ⟨ht, hrt⟩ := next_some hf hn
      rw [enum_some hf hn] at hc
      rcases List.mem_cons.1 hc with rfl | h
      · exact hf
      · cases k with
        | zero => omega
        | succ k => exact enum_fits k (by omega) ht c h
theorem enum_all {ss c : List Int} (h0 : ∀ s ∈ ss, 0 ≤ s) : c ∈ enumC ss (List.replicate ss.length 0) ↔ fit ss c := by
  obtain ⟨h1, h2⟩ := fit_zeros ss h0
  constructor
  · exact enum_fits _ rfl h1 c
  · intro h
    have := rem_lt h
    exact enum_mem (rem ss (List.replicate ss.length 0) - rem ss c) h1 h (by omega)
theorem all_zero {ss : List Int} (h : ss.all qSize = true) : ∀ s ∈ ss, 0 ≤ s := fun s hs => (qSize_iff.1 (List.all_eq_true.1 h s hs)).1
theorem enumR_all {m : Model} (hok : okModel m = true) {r : Rule} (hv : okVars m.sizes.length r.vars = true) {c : List Int} : c ∈ enumC (sizesR m r) (zerosR r) ↔ fit (sizesR m r) c := by
  have := enum_all (c := c) (all_zero (sizesR_ok hok hv))
  rw [sizesR_len] at this
  exact this
/-! rows and orders -/
theorem forb_clause {m : Model} (hok : okModel m = true) {v : List Bool} {cells : List Int} (h : Enc m v cells) {r : Rule} (hv : okVars m.sizes.length r.vars = true) {vs : List Int} (hf : fit (sizesR m r) vs) : evalC (clC (litsF m r vs r.vars.length)) v = decide (vs ≠ valsOf r cells) := by
  rw [clC_eval (distinct_ok (litsF_lit hok hv hf) (litsF_dis hok hv hf)), Bool.eq_iff_iff, List.any_eq_true, decide_eq_true_eq]
  have hl := fit_len hf
  rw [sizesR_len] at hl
  have key : ∀ n, n < r.vars.length → (trueL v (litN m r vs n) = true ↔ vs[n]? ≠ (valsOf r cells)[n]?) := by
    intro n hn
    obtain ⟨u, u1, u2, u3, _, u5⟩ := litN_abs hok hv hf hn
    obtain ⟨w, w1, w2, w3⟩ := row_at hok hv hf hn
    obtain ⟨c, c1, c2, _, c4⟩ := vals_at hok h hv hn
    have hr := var_range hok (varN_lt hv hn) u2
    rw [u3, trueL_neg v (by omega), c4 u u2, w1, c2]
    simp only [Bool.not_eq_true', decide_eq_false_iff_not, ne_eq, Option.some.injEq]
    omega
  constructor
  · rintro ⟨l, hl', ht⟩ e
    obtain ⟨n, hn, rfl⟩ := List.mem_map.1 hl'
    rw [List.mem_range] at hn
    exact (key n hn).1 ht (by rw [e])
  · intro hne
    apply Classical.byContradiction
    intro hno
    apply hne
    apply List.ext_getElem?
    intro n
    by_cases hn : n < r.vars.length
    · apply Classical.byContradiction
      intro hd
      exact hno ⟨litN m r vs n, List.mem_map.2 ⟨n, List.mem_range.2 hn, rfl⟩, (key n hn).2 hd⟩
    · rw [List.getElem?_eq_none (by omega), List.getElem?_eq_none (by rw [valsOf_len]; omega)]
theorem allV_flat {α : Type} (f : α → List Con) (v : List Bool) : ∀ xs : List α, allV (xs.flatMap f) v = xs.all fun x => allV (f x) v
  | [] => rfl
  | x :: xs => by rw [List.flatMap_cons, allV_app, allV_flat f v xs, List.all_cons]
theorem forb_means {m : Model} (hok : okModel m = true) {v : List Bool} {cells : List Int} (h : Enc m v cells) {r : Rule} (hv : okVars m.sizes.length r.vars = true) : allV (forbE m r) v = ruleHolds r (valsOf r cells) := by
  unfold forbE forbF
  rw [allV_flat, Bool.eq_iff_iff, List.all_eq_true]
  have hone : ∀ vs, fit (sizesR m r) vs → allV (forb1 m r vs) v = (ruleHolds r vs || decide (vs ≠ valsOf r cells)) := by
    intro vs hf
    unfold forb1 allV
    cases ruleHolds r vs with
    | true => rfl
    | false => simp only [Bool.false_eq_true, if_false, List.all_cons, List.all_nil, Bool.and_true, Bool.false_or]; exact forb_clause hok h hv hf
  constructor
  · intro hall
    have hf := valsOf_fit hok h hv
    have := hall _ ((enumR_all hok hv).2 hf)
    rw [hone _ hf] at this
    simpa using this
  · intro hr vs hvs
    rw [hone vs ((enumR_all hok hv).1 hvs)]
    by_cases e : vs = valsOf r cells
    · subst e; rw [hr]; rfl
    · simp [e]
/-! different cells -/
theorem diff_count {m : Model} (hok : okModel m = true) {v : List Bool} {cells : List Int} (h : Enc m v cells) {r : Rule} (hv : okVars m.sizes.length r.vars = true) (k : Nat) : ∀ n, n ≤ r.vars.length → (diffTo m r k n).countP (trueL v) = (((valsOf r cells).take n).filter (· == (k : Int))).length
  | 0, _ => by simp [diffTo]
  | n + 1, hn => by
    obtain ⟨c, c1, c2, _, c4⟩ := vals_at hok h hv (n := n) (by omega)
    rw [diffTo, List.countP_append, diff_count hok h hv k n (by omega), take_snoc1 c2, List.filter_append, List.length_append]
    congr 1
    by_cases hk : k ≤ sizeAt m (varN r n)
    · rw [if_pos hk, List.countP_singleton, c4 k hk, List.filter_cons, List.filter_nil]
      by_cases e : k = c
      · subst e; simp
      · have e2 : ¬ (c : Int) = (k : Int) := by omega
        simp [e, e2]
    · have e2 : ¬ (c : Int) = (k : Int) := by omega
      rw [if_neg hk, List.filter_cons, List.filter_nil]
      simp [e2]
theorem nodup_of_filter : ∀ {xs : List Int}, (∀ y ∈ xs, (xs.filter (· == y)).length ≤ 1) → xs.Nodup
  | [], _ => List.nodup_nil
  | x :: xs, h => by
    rw [List.nodup_cons]
    constructor
    · intro hx
      have := h x (by simp)
      rw [List.filter_cons, if_pos (by simp), List.length_cons] at this
      have h2 : 0 < (xs.filter (· == x)).length := List.length_pos_of_mem (List.mem_filter.2 ⟨hx, by simp⟩)
      omega
    · refine nodup_of_filter fun y hy => ?_
      have := h y (by simp [hy])
      rw [List.filter_cons] at this
      split at this
      · rw [List.length_cons] at this; omega
      · exact this
theorem diff_step {m : Model} (hok : okModel m = true) {v : List Bool} {r : Rule} (hv : okVars m.sizes.length r.vars = true) : ∀ n, allV (diffE m r n) v = true ↔ ∀ k, k < n → (diffTo m r k r.vars.length).countP (trueL v) ≤ 1
  | 0 => ⟨fun _ k h => by omega, fun _ => rfl⟩
  | n + 1 => by
    have hp := diffTo_pos hok hv n
    rw [diffE, allV_app, Bool.and_eq_true, diff_step hok hv n]
    have hone : allV (if 1 < (diffTo m r n r.vars.length).length then [mostC (sortI (diffTo m r n r.vars.length))] else []) v = true ↔ (diffTo m r n r.vars.length).countP (trueL v) ≤ 1 := by
      split
      · unfold allV
        rw [List.all_cons, List.all_nil, Bool.and_true, most_eval (sortI_pos hp), decide_eq_true_eq, (sortI_perm _).countP_eq]
      · have := List.countP_le_length (p := trueL v) (l := diffTo m r n r.vars.length)
        exact ⟨fun _ => by omega, fun _ => rfl⟩
    rw [hone]
    constructor
    · rintro ⟨h1, h2⟩ k hk
      by_cases e : k = n
      · subst e; exact h2
      · exact h1 k (by omega)
    · intro h
      exact ⟨fun k hk => h k (by omega), h n (by omega)⟩
theorem diff_means {m : Model} (hok : okModel m = true) {v : List Bool} {cells : List Int} (h : Enc m v cells) {r : Rule} (hv : okVars m.sizes.length r.vars = true) : allV (diffE m r 4) v = distinct (valsOf r cells) := by
  rw [Bool.eq_iff_iff, diff_step hok hv, distinct_nodup]
  have hlen := valsOf_len r cells
  have hc : ∀ k : Nat, (diffTo m r k r.vars.length).countP (trueL v) = ((valsOf r cells).filter (· == (k : Int))).length := fun k => by
    rw [diff_count hok h hv k _ (Nat.le_refl _), ← hlen, List.take_length]
  constructor
  · intro hall
    refine nodup_of_filter fun y hy => ?_
    have := vals_small hok hv (valsOf_fit hok h hv) y hy
    have := hall y.toNat (by omega)
    rw [hc, show ((y.toNat : Nat) : Int) = y by omega] at this
    exact this
  · intro hn k _
    rw [hc]
    exact filter_le_one hn _
/-! linear sums -/
theorem sumR_absB {f : Term → Int} (B : Int) : ∀ (ts : List Term), (∀ t ∈ ts, -B ≤ f t ∧ f t ≤ B) → -(B * (ts.length : Int)) ≤ sumR f ts ∧ sumR f ts ≤ B * ts.length
  | [], _ => by simp [sumR]
  | t :: ts, h => by
    have ih := sumR_absB B ts fun u hu => h u (by simp [hu])
    have ht := h t (by simp)
    rw [sumR, List.length_cons]
    have e : B * ((ts.length + 1 : Nat) : Int) = B * (ts.length : Int) + B := by rw [Int.natCast_add, Int.mul_add]; simp
    rw [e]
    omega
theorem lin_net {m : Model} (hok : okModel m = true) {r : Rule} (hv : okVars m.sizes.length r.vars = true) (hc : r.coefs.all qCoef = true) (hl : r.coefs.length = r.vars.length) (k : Int) : -540 ≤ netF (linT m r r.vars.length) k ∧ netF (linT m r r.vars.length) k ≤ 540 := by
  obtain ⟨h1, h2⟩ := linT_ok hok hv hc hl
  have := sumR_absB (f := con1 k) 27 (linT m r r.vars.length) fun t ht => by
    obtain ⟨j, j1, u, j2, rfl⟩ := (linT_mem _).1 ht
    obtain ⟨_, c2, c3⟩ := coef_at hc hl j1
    have hs := size_ok hok (varN_lt hv j1)
    have hm := mul_small c2 c3 (v := u) (by omega)
    unfold con1 linC
    simp only
    split
    · exact hm
    · split <;> omega
  unfold netF
  omega
theorem normT_ok {f : Int → Int} (hf : ∀ k, -540 ≤ f k ∧ f k ≤ 540) : ∀ n : Nat, n ≤ 12 → okTerms 0 (normT f n) = true ∧ ∀ t ∈ normT f n, absI t.lit ≤ (n : Int)
  | 0, _ => ⟨rfl, by simp [normT]⟩
  | n + 1, hn => by
    obtain ⟨h1, h2⟩ := normT_ok hf n (by omega)
    have hb := hf ((n + 1 : Nat) : Int)
    have one : ∀ c l : Int, 1 ≤ c → c ≤ 540 → absI l = ((n + 1 : Nat) : Int) → okTerms 0 (normT f n ++ [⟨c, l⟩]) = true ∧ ∀ t ∈ normT f n ++ [(⟨c, l⟩ : Term)], absI t.lit ≤ ((n + 1 : Nat) : Int) := by
      intro c l hc1 hc2 hl
      have hok : okT ⟨c, l⟩ = true := by
        unfold absI at hl
        unfold okT
        simp
        omega
      refine ⟨okTerms_snoc' hok (n := (n : Int)) (by simp only [hl]; omega) _ 0 h1 h2 (by omega), fun t ht => ?_⟩
      rcases List.mem_append.1 ht with ht | ht
      · have := h2 t ht; omega
      · rw [List.mem_singleton] at ht; subst ht; simp only [hl]; omega
    rw [normT]
    unfold piece
    split
    · exact one _ _ (by omega) (by omega) (by unfold absI; omega)
    · split
      · exact one _ _ (by omega) (by omega) (by unfold absI; omega)
      · rw [List.append_nil]
        exact ⟨h1, fun t ht => by have := h2 t ht; omega⟩
theorem minS_540 {f : Int → Int} (hf : ∀ k, -540 ≤ f k ∧ f k ≤ 540) : ∀ n : Nat, -(540 * (n : Int)) ≤ minS f n ∧ minS f n ≤ 0
  | 0 => by simp [minS]
  | n + 1 => by
    have h1 := minS_540 hf n
    have h2 := hf ((n + 1 : Nat) : Int)
    rw [minS]
    omega
theorem lin_norm {m : Model} (hok : okModel m = true) {r : Rule} (hv : okVars m.sizes.length r.vars = true) (hc : r.coefs.all qCoef = true) (hl : r.coefs.length = r.vars.length) (hb : -1000 ≤ r.bound ∧ r.bound ≤ 1000) :
    okCon (normC (linT m r r.vars.length) r.bound).1 = true ∧ ∀ v, evalC (normC (linT m r r.vars.length) r.bound).1 v = decide (r.bound ≤ sumV v (linT m r r.vars.length)) := by
  obtain ⟨h1, h2⟩ := linT_ok hok hv hc hl
  have hnet := lin_net hok hv hc hl
  have hneg := negS_zero fun t ht => (h1 t ht).2
  obtain ⟨o1, _⟩ := normT_ok hnet 12 (by omega)
  have hmin := minS_540 hnet 12
  have hokc : okCon ⟨normT (netF (linT m r r.vars.length)) 12, max 0 (r.bound - negS (linT m r r.vars.length) - minS (netF (linT m r r.vars.length)) 12)⟩ = true := by
    unfold okCon okB
    simp only [o1, Bool.true_and, Bool.and_eq_true, decide_eq_true_eq]
    omega
  have e : (normC (linT m r r.vars.length) r.bound).1 = ⟨normT (netF (linT m r r.vars.length)) 12, max 0 (r.bound - negS (linT m r r.vars.length) - minS (netF (linT m r r.vars.length)) 12)⟩ := by
    unfold normC validC
    rw [if_pos hokc]
  rw [e]
  refine ⟨hokc, fun v => ?_⟩
  have hs1 := net_sum v (linT m r r.vars.length) fun t ht => (h1 t ht).1
  have hs2 := norm_sum v (netF (linT m r r.vars.length)) 12
  have hs3 := sumV_nonneg v _ (okTerms_all _ _ o1)
  unfold evalC
  simp only
  rw [Bool.eq_iff_iff, decide_eq_true_eq, decide_eq_true_eq]
  omega
theorem lin_part {m : Model} (hok : okModel m = true) {v : List Bool} {cells : List Int} (h : Enc m v cells) {r : Rule} (hv : okVars m.sizes.length r.vars = true) {n : Nat} (hn : n < r.vars.length) (c : Nat) (hc : ∀ k : Nat, k ≤ sizeAt m (varN r n) → trueL v (boolVar m (varN r n) k) = decide (k = c)) : ∀ q, q ≤ sizeAt m (varN r n) + 1 → sumV v ((List.range q).map (linC m r n)) = if c < q then r.coefs.getD n 0 * (c : Int) else 0
  | 0, _ => by rw [if_neg (by omega)]; rfl
  | q + 1, hq => by
    rw [List.range_succ, List.map_append, List.map_singleton, sumV_snoc, lin_part hok h hv hn c hc q (by omega)]
    have := hc q (by omega)
    unfold linC
    simp only [this]
    by_cases e : q = c
    · subst e
      rw [if_pos (by simp), if_neg (by omega), if_pos (by omega)]; omega
    · rw [if_neg (by simpa using e)]
      by_cases hlt : c < q
      · rw [if_pos hlt, if_pos (by omega)]
      · rw [if_neg hlt, if_neg (by omega)]
theorem lin_sum {m : Model} (hok : okModel m = true) {v : List Bool} {cells : List Int} (h : Enc m v cells) {r : Rule} (hv : okVars m.sizes.length r.vars = true) (hl : r.coefs.length = r.vars.length) : ∀ n, n ≤ r.vars.length → sumV v (linT m r n) = dotTo r.coefs (valsOf r cells) n
  | 0, _ => by simp [linT, dotTo, sumV, sumR]
  | n + 1, hn => by
    obtain ⟨c, c1, c2, _, c4⟩ := vals_at hok h hv (n := n) (by omega)
    have hvl := valsOf_len r cells
    rw [linT, sumV_app, lin_sum hok h hv hl n (by omega), lin_part hok h hv (by omega) c c4 _ (Nat.le_refl _), if_pos (by omega), dot_next _ _ _ (by omega) (by omega), getD_at _ (show n < r.coefs.length by omega)]
    have : (valsOf r cells)[n] = (c : Int) := by
      have := List.getElem?_eq_getElem (l := valsOf r cells) (i := n) (by omega)
      rw [this] at c2; injection c2
    rw [this]
theorem rule_means {m : Model} (hok : okModel m = true) {v : List Bool} {cells : List Int} (h : Enc m v cells) {r : Rule} (hr : okRule m.sizes.length r = true) : allV (ruleE m r) v = ruleHolds r (valsOf r cells) := by
  obtain ⟨hv, _, hk⟩ := okRule_parts hr
  unfold ruleE
  rcases hk with ⟨hk, hc1, hc2, hb1, hb2⟩ | hk | ⟨hk, _⟩ | ⟨hk, _⟩
  · rw [if_pos hk]
    unfold linE allV ruleHolds
    rw [List.all_cons, List.all_nil, Bool.and_true, (lin_norm hok hv hc1 hc2 ⟨hb1, hb2⟩).2 v, lin_sum hok h hv hc2 _ (Nat.le_refl _), hk]
    rw [show r.vars.length = (valsOf r cells).length from (valsOf_len r cells).symm, dot_full _ _ (by rw [valsOf_len]; exact hc2)]
    rfl
  · rw [if_neg (by omega), if_pos hk, diff_means hok h hv]
    unfold ruleHolds
    rw [hk]; rfl
  · rw [if_neg (by omega), if_neg (by omega)]
    exact forb_means hok h hv
  · rw [if_neg (by omega), if_neg (by omega)]
    exact forb_means hok h hv
theorem rules_mean {m : Model} (hok : okModel m = true) {v : List Bool} {cells : List Int} (h : Enc m v cells) : allV (rulesE m m.rules.length) v = solves m cells := by
  unfold rulesE solves
  rw [allV_flat, List.take_length, Bool.eq_iff_iff, List.all_eq_true, List.all_eq_true]
  constructor
  · intro ha r hr; rw [← rule_means hok h (okRule_mem hok hr)]; exact ha r hr
  · intro ha r hr; rw [rule_means hok h (okRule_mem hok hr)]; exact ha r hr
end Go.L
namespace Go.L
open Go Go.E
set_option linter.unusedVariables false
set_option linter.unusedSimpArgs false
set_option maxRecDepth 100000
theorem asc_ok : ∀ (vs : List Int) (b : Int), vs.Pairwise (· < ·) → (∀ x ∈ vs, 1 ≤ x ∧ x ≤ 12 ∧ b < x) → okTerms b (vs.map fun x => (⟨1, -x⟩ : Term)) = true
  | [], _, _, _ => rfl
  | x :: vs, b, h, hx => by
    rw [List.pairwise_cons] at h
    obtain ⟨x1, x2, x3⟩ := hx x (by simp)
    have ha : absI (-x) = x := by unfold absI; omega
    rw [List.map_cons, okTerms]
    simp only [ha]
    have hk : okT (⟨1, -x⟩ : Term) = true := by unfold okT; simp; omega
    rw [hk, decide_eq_true x3, asc_ok vs x h.2 fun y hy => by have := h.1 y hy; have := hx y (by simp [hy]); omega]
    rfl
theorem most_ok {vs : List Int} (h : vs.Pairwise (· < ·)) (hp : ∀ x ∈ vs, 1 ≤ x ∧ x ≤ 12) (h1 : 1 ≤ vs.length) (h2 : vs.length ≤ 100) : okCon (mostC vs) = true := by
  unfold okCon okB mostC
  simp only [asc_ok vs 0 h fun x hx => by have := hp x hx; omega, Bool.true_and, Bool.and_eq_true, decide_eq_true_eq]
  omega
theorem cellsE_ok {m : Model} (hok : okModel m = true) : ∀ c ∈ cellsE m m.sizes.length, okCon c = true := by
  intro c hc
  obtain ⟨i, hi, hc⟩ := List.mem_flatMap.1 hc
  rw [List.mem_range] at hi
  have hp := varsC_pos hok hi
  have hs := size_ok hok hi
  have hl := varsC_len m i
  unfold cellE at hc
  rcases List.mem_cons.1 hc with rfl | hc
  · exact clC_ok (distinct_ok (pos_lit hp) (pos_dis hp (lt_nodup (varsC_sorted m i))))
  · rw [List.mem_singleton] at hc
    subst hc
    exact most_ok (varsC_sorted m i) hp (by omega) (by omega)
theorem diffTo_nodup {m : Model} (hok : okModel m = true) {r : Rule} (hv : okVars m.sizes.length r.vars = true) (v : Nat) : ∀ n, n ≤ r.vars.length → (diffTo m r v n).Nodup
  | 0, _ => List.nodup_nil
  | n + 1, hn => by
    rw [diffTo]
    by_cases h : v ≤ sizeAt m (varN r n)
    · rw [if_pos h, List.nodup_append]
      refine ⟨diffTo_nodup hok hv v n (by omega), by simp, ?_⟩
      intro a ha b hb e
      rw [List.mem_singleton] at hb
      subst hb e
      obtain ⟨j, j1, j2, j3⟩ := (diffTo_mem n).1 ha
      have := var_same hok (varN_lt hv (n := n) (by omega)) (varN_lt hv (n := j) (by omega)) h j2 j3
      have := varN_inj hv (by omega) (by omega) this.1
      omega
    · rw [if_neg h, List.append_nil]
      exact diffTo_nodup hok hv v n (by omega)
theorem strict_sort {vs : List Int} (hn : vs.Nodup) : (sortI vs).Pairwise (· < ·) := by
  have h1 := sortI_sorted vs
  have h2 : (sortI vs).Nodup := (sortI_perm vs).nodup_iff.2 hn
  exact (h1.and h2).imp fun ⟨a, b⟩ => by omega
theorem ruleE_ok {m : Model} (hok : okModel m = true) {r : Rule} (hm : r ∈ m.rules) : ∀ c ∈ ruleE m r, okCon c = true := by
  have hl5 := (okModel_parts hok).2.1
  obtain ⟨hv, _, hk⟩ := okRule_parts (okRule_mem hok hm)
  have hl := okVars_len hv
  have hforb : ∀ c ∈ forbE m r, okCon c = true := by
    intro c hc
    obtain ⟨vs, hvs, hc⟩ := List.mem_flatMap.1 hc
    have hf := (enumR_all hok hv).1 hvs
    unfold forb1 at hc
    split at hc
    · cases hc
    · rw [List.mem_singleton] at hc
      subst hc
      exact clC_ok (distinct_ok (litsF_lit hok hv hf) (litsF_dis hok hv hf))
  have hdiff : ∀ n, ∀ c ∈ diffE m r n, okCon c = true := by
    intro n
    induction n with
    | zero => simp [diffE]
    | succ n ih =>
      intro c hc
      rw [diffE] at hc
      rcases List.mem_append.1 hc with hc | hc
      · exact ih c hc
      · split at hc
        · rw [List.mem_singleton] at hc
          subst hc
          have hd := diffTo_len m r n r.vars.length
          exact most_ok (strict_sort (diffTo_nodup hok hv n _ (Nat.le_refl _))) (sortI_pos (diffTo_pos hok hv n)) (by rw [(sortI_perm _).length_eq]; omega) (by rw [(sortI_perm _).length_eq]; omega)
        · cases hc
  unfold ruleE
  rcases hk with ⟨hk, hc1, hc2, hb1, hb2⟩ | hk | ⟨hk, _⟩ | ⟨hk, _⟩
  · rw [if_pos hk]
    intro c hc
    unfold linE at hc
    rw [List.mem_singleton] at hc
    subst hc
    exact (lin_norm hok hv hc1 hc2 ⟨hb1, hb2⟩).1
  · rw [if_neg (by omega), if_pos hk]; exact hdiff 4
  · rw [if_neg (by omega), if_neg (by omega)]; exact hforb
  · rw [if_neg (by omega), if_neg (by omega)]; exact hforb
theorem encL2_ok {m : Model} (hok : okModel m = true) : ∀ c ∈ encL2 m, okCon c = true := by
  intro c hc
  rcases List.mem_append.1 hc with hc | hc
  · exact cellsE_ok hok c hc
  · obtain ⟨r, hr, hc⟩ := List.mem_flatMap.1 hc
    exact ruleE_ok hok (List.mem_of_mem_take hr) c hc
theorem okProb_of {list : List Con} (h : ∀ c ∈ list, okCon c = true) (hl : list.length ≤ 400) : okProb list = true := by
  unfold okProb
  rw [List.all_eq_true.2 h, decide_eq_true (by omega)]; rfl
theorem encM_yes {m : Model} (h : (encM m).2 = true) : okModel m = true ∧ encM m = (encL2 m, true) ∧ okProb (encL2 m) = true := by
  unfold encM at h ⊢
  cases hok : okModel m with
  | false => rw [hok] at h; simp at h
  | true =>
    rw [hok] at h
    simp only [if_true] at h ⊢
    by_cases hl : (encL2 m).length > 400
    · rw [if_pos hl] at h; simp at h
    · rw [if_neg hl]
      exact ⟨trivial, rfl, okProb_of (encL2_ok hok) (by omega)⟩
theorem enc_sat {m : Model} (hok : okModel m = true) {v : List Bool} {cells : List Int} (h : Enc m v cells) : allV (encL2 m) v = solves m cells := by
  unfold encL2
  rw [allV_app, rules_mean hok h, (cells_iff hok v _ (Nat.le_refl _)).2 (h.cell hok), Bool.true_and]
theorem drawEC_ok (code : List UInt8) (fu : Nat) (hf : FU ≤ fu) : s_DrawEncodeCells fu code = some () := by
  refine so_eq ?_
  unfold s_DrawEncodeCells
  exact so_anyB (⟨[], []⟩, []) (drawCells_ok code fu hf) ⟨s0, by simp [sOut]⟩ fun o ho => so_assert ho
theorem FUe : FU ≤ FU := Nat.le_refl _
theorem FnEncodeSolves_ok (code : List UInt8) (g0 : code.length ≤ 9223372036854775807 ∧ ∀ x ∈ code, True) : ∃ fu, l_FnEncodeSolves fu code = some true := by
  refine ⟨FU, ?_⟩
  unfold l_FnEncodeSolves
  split
  · rfl
  refine anyB_intro (drawEC_ok code FU FUe) (o0 := (⟨[], []⟩, [])) ⟨s0, by simp [sOut]⟩ fun x hx => ?_
  obtain ⟨m, cells⟩ := x
  simp only at hx ⊢
  have hs := small_s hx.1
  rw [i_encode m hs, Option.bind_some, s_encode m hs FU FUe, Option.bind_some, i_enc FU FUe hs, Option.bind_some, cp_bools]
  simp only [bne_self_eq_false, Bool.false_eq_true, if_false, decide_true, Bool.not_true, Option.bind_some, Bool.false_or, beq_self_eq_true, if_true]
  cases hc : (encode m cells).2 with
  | false => simp
  | true =>
    cases he : (encM m).2 with
    | false => simp
    | true =>
      obtain ⟨hok, e, hp⟩ := encM_yes he
      have hcells : okCells m cells = true := by
        unfold encode at hc
        split at hc
        · assumption
        · cases hc
      have hen : encode m cells = (encL m cells cells.length, true) := by unfold encode; rw [if_pos hcells]
      have hf := cellsIn_fit.1 (okCells_parts hcells).2
      rw [if_neg (by simp), hen, e]
      simp only
      rw [i_sat (encL_len m cells _), Option.bind_some, hp, Bool.true_and, enc_sat hok (encode_enc hok hf), i_solvesM m hs]
      unfold solvesM
      rw [hcells, Bool.true_and]
      simp
end Go.L
namespace Go.L
open Go Go.E
set_option linter.unusedVariables false
set_option linter.unusedSimpArgs false
set_option maxRecDepth 100000
end Go.L
namespace Go.L
open Go Go.E
set_option linter.unusedVariables false
set_option linter.unusedSimpArgs false
set_option maxRecDepth 100000
end Go.L
namespace Go.L
open Go Go.E
set_option linter.unusedVariables false
set_option linter.unusedSimpArgs false
set_option maxRecDepth 100000
end Go.L
