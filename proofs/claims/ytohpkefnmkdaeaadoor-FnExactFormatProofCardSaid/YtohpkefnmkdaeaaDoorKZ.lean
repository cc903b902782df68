/- The plain law: what the functions compute, and that it answers as the statement says. -/
import Derived.Test.YtohpkefnmkdaeaaDoorG10
import Derived.Test.YtohpkefnmkdaeaaDoorD1
import Derived.Lib.ItoaMem
import Derived.Lib.SplitLaws
namespace Go.L
open Go Go.E
set_option linter.unusedVariables false
def FU : Nat := 1000000
def ML : Nat := 9223372036854775807
section
variable {α β σ τ : Type}
theorem idx_nat (xs : List α) (i : Nat) : idx xs (i : Int) = xs[i]? := by
  unfold idx; rw [if_pos (Int.natCast_nonneg i), Int.toNat_natCast]
theorem mkN_le {n : Nat} (x : α) (h : n ≤ 4294967296) : mkN (n : Int) x = some (List.replicate n x) := by
  unfold mkN
  rw [if_pos (by omega), Int.toNat_natCast]
theorem range_to {b : Nat → α → σ → Option (Lo σ τ)} (F : Nat → σ) (xs0 : List α) (h : ∀ i x, xs0[i]? = some x → b i x (F i) = some (.cont (F (i + 1)))) :
    rangeL b xs0 0 (F 0) = some (.nx (F xs0.length)) := by
  have key : ∀ (xs : List α) (i : Nat), xs0.drop i = xs → i ≤ xs0.length → rangeL b xs i (F i) = some (.nx (F xs0.length)) := by
    intro xs
    induction xs with
    | nil =>
      intro i hd hi
      rw [List.drop_eq_nil_iff] at hd
      obtain rfl : i = xs0.length := by omega
      rfl
    | cons x xs ih =>
      intro i hd hi
      have hx := drop_idx hd
      rw [idx_nat] at hx
      show (b i x (F i)).bind _ = _
      rw [h i x hx]
      exact ih (i + 1) (drop_next hd) (List.getElem?_eq_some_iff.1 hx).1
  exact key xs0 0 rfl (Nat.zero_le _)
theorem range_inv {b : Nat → α → σ → Option (Lo σ τ)} (xs0 : List α) (I : Nat → σ → Prop) (Q : Jn σ τ → Prop) (h0 : ∀ s, I xs0.length s → Q (.nx s))
    (h : ∀ i x s, xs0[i]? = some x → I i s → ∃ o, b i x s = some o ∧ (match o with | .cont s' => I (i + 1) s' | .brk s' => Q (.nx s') | .out t => Q (.out t))) (s : σ) (hs : I 0 s) :
    ∃ j, rangeL b xs0 0 s = some j ∧ Q j := by
  have key : ∀ (xs : List α) (i : Nat) (s : σ), xs0.drop i = xs → i ≤ xs0.length → I i s → ∃ j, rangeL b xs i s = some j ∧ Q j := by
    intro xs
    induction xs with
    | nil =>
      intro i s hd hi hI
      rw [List.drop_eq_nil_iff] at hd
      obtain rfl : i = xs0.length := by omega
      exact ⟨_, rfl, h0 s hI⟩
    | cons x xs ih =>
      intro i s hd hi hI
      have hx := drop_idx hd
      rw [idx_nat] at hx
      obtain ⟨o, hb, ho⟩ := h i x s hx hI
      have hl := (List.getElem?_eq_some_iff.1 hx).1
      cases o with
      | cont s' =>
        obtain ⟨j, hj, hQ⟩ := ih (i + 1) s' (drop_next hd) hl ho
        exact ⟨j, by show (b i x s).bind _ = _; rw [hb]; exact hj, hQ⟩
      | brk s' => exact ⟨_, by show (b i x s).bind _ = _; rw [hb]; rfl, ho⟩
      | out t => exact ⟨_, by show (b i x s).bind _ = _; rw [hb]; rfl, ho⟩
  exact key xs0 0 s rfl (Nat.zero_le _) hs
theorem while_inv {b : σ → Option (Lo σ τ)} (I : Nat → σ → Prop) (Q : Jn σ τ → Prop)
    (h : ∀ n s, I n s → ∃ o, b s = some o ∧ (match o with | .cont s' => ∃ m, m < n ∧ I m s' | .brk s' => Q (.nx s') | .out t => Q (.out t))) :
    ∀ k n s, I n s → n < k → ∃ j, whileL b k s = some j ∧ Q j := by
  intro k
  induction k with
  | zero => intro n s _ h; omega
  | succ k ih =>
    intro n s hI hk
    obtain ⟨o, hb, ho⟩ := h n s hI
    cases o with
    | cont s' =>
      obtain ⟨m, hm, hI'⟩ := ho
      obtain ⟨j, hj, hQ⟩ := ih m s' hI' (by omega)
      exact ⟨j, by show (b s).bind _ = _; rw [hb]; exact hj, hQ⟩
    | brk s' => exact ⟨_, by show (b s).bind _ = _; rw [hb]; rfl, ho⟩
    | out t => exact ⟨_, by show (b s).bind _ = _; rw [hb]; rfl, ho⟩
def allFrom (q : Nat → α → Bool) : List α → Nat → Bool
  | [], _ => true
  | x :: xs, i => q i x && allFrom q xs (i + 1)
theorem allFrom_const (q : α → Bool) : ∀ (xs : List α) (i : Nat), allFrom (fun _ x => q x) xs i = xs.all q
  | [], _ => rfl
  | x :: xs, i => by rw [allFrom, allFrom_const q xs, List.all_cons]
theorem allFrom_iff (q : Nat → α → Bool) : ∀ (xs : List α) (k : Nat), allFrom q xs k = true ↔ ∀ i x, xs[i]? = some x → q (k + i) x = true
  | [], k => by simp [allFrom]
  | x :: xs, k => by
    rw [allFrom, Bool.and_eq_true, allFrom_iff q xs (k + 1)]
    constructor
    · rintro ⟨h0, h⟩ i y hy
      cases i with
      | zero => simp at hy; subst hy; simpa using h0
      | succ i => have := h i y (by simpa using hy); rwa [show k + 1 + i = k + (i + 1) from by omega] at this
    · intro h
      exact ⟨by simpa using h 0 x rfl, fun i y hy => by have := h (i + 1) y (by simpa using hy); rwa [show k + (i + 1) = k + 1 + i from by omega] at this⟩
theorem range_allI (q : Nat → α → Bool) (t : τ) {b : Nat → α → Unit → Option (Lo Unit τ)} (xs0 : List α)
    (hb : ∀ (i : Nat) (x : α), xs0[i]? = some x → b i x () = some (if q i x then .cont () else .out t)) : rangeL b xs0 0 () = some (if allFrom q xs0 0 then .nx () else .out t) := by
  have key : ∀ (xs : List α) (i : Nat), xs0.drop i = xs → rangeL b xs i () = some (if allFrom q xs i then .nx () else .out t) := by
    intro xs
    induction xs with
    | nil => intro i _; rfl
    | cons x xs ih =>
      intro i h
      have hx := drop_idx h
      rw [idx_nat] at hx
      show (b i x ()).bind _ = _
      rw [hb i x hx]
      cases hq : q i x with
      | true => show rangeL b xs (i + 1) () = _; rw [ih (i + 1) (drop_next h)]; simp [allFrom, hq]
      | false => simp [allFrom, hq]
  exact key xs0 0 rfl
theorem range_all (q : α → Bool) (t : τ) {b : Nat → α → Unit → Option (Lo Unit τ)} (xs0 : List α)
    (hb : ∀ (i : Nat) (x : α), xs0[i]? = some x → b i x () = some (if q x then .cont () else .out t)) : rangeL b xs0 0 () = some (if xs0.all q then .nx () else .out t) := by
  rw [range_allI (fun _ => q) t xs0 hb, allFrom_const]
end
end Go.L
namespace Go.L
open Go Go.E
set_option linter.unusedSimpArgs false
set_option linter.unusedVariables false
theorem bs_size (l : List UInt8) : (bs l).size = l.length := by show l.toArray.size = _; simp
theorem cat_bs {a b : List UInt8} (h : a.length + b.length ≤ 9223372036854775807) : cat (bs a) (bs b) = some (bs (a ++ b)) := by
  unfold cat
  rw [if_pos (by rw [bs_size, bs_size]; exact h)]
  simp only [bs]
  exact congrArg some (ByteArray.ext (by simp))
theorem catB_bs {a b : List UInt8} (h : a.length + b.length ≤ 140737488355328) : catB (bs a) (bs b) = some (bs (a ++ b)) := by
  unfold catB
  rw [if_pos (by rw [bs_size, bs_size]; exact h)]
  simp only [bs]
  exact congrArg some (ByteArray.ext (by simp))
theorem eq_bs (a b : List UInt8) : (ByteArray.toList (bs a) == ByteArray.toList (bs b)) = (a == b) := by
  simp only [bs, ByteArray.toList_mk]
def dec (n : Nat) : List UInt8 := Go.Lib.decDigits n
theorem dec_small {n : Nat} (h : n < 10) : dec n = [UInt8.ofNat (48 + n)] := Go.Lib.decDigits_one h
theorem dec_big {n : Nat} (h : ¬ n < 10) : dec n = dec (n / 10) ++ [UInt8.ofNat (48 + n % 10)] := by
  unfold dec
  rw [Go.Lib.decDigits, dif_neg h]
theorem dec_len : ∀ (k n : Nat), n < 10 ^ (k + 1) → (dec n).length ≤ k + 1
  | 0, n, h => by rw [dec_small (by simpa using h)]; simp
  | k + 1, n, h => by
    by_cases hn : n < 10
    · rw [dec_small hn]; simp
    · rw [dec_big hn, List.length_append]
      have := dec_len k (n / 10) (by rw [Nat.div_lt_iff_lt_mul (by omega)]; rw [Nat.pow_succ] at h; omega)
      simp; omega
theorem dec_pos (n : Nat) : 1 ≤ (dec n).length := by
  by_cases hn : n < 10
  · rw [dec_small hn]; simp
  · rw [dec_big hn]; simp
theorem dec_len20 {n : Nat} (h : n ≤ 9223372036854775807) : (dec n).length ≤ 19 := dec_len 18 n (by omega)
theorem wrap_u8 {x : Int} (h0 : 0 ≤ x) (h1 : x < 256) : IntKind.u8.wrap x = x := by
  unfold IntKind.wrap IntKind.bits IntKind.signed
  simp
  omega
theorem u8w_nat {m : Nat} (h : m < 256) : u8w (m : Int) = UInt8.ofNat m := by
  unfold u8w
  rw [wrap_u8 (by omega) (by omega)]
  rfl
theorem itoa_nat {n : Nat} (h : n ≤ 9223372036854775807) : strconv_Itoa (n : Int) = some (bs (dec n)) := by
  unfold strconv_Itoa
  rw [if_pos ⟨by omega, by omega⟩, Go.Lib.itoa_nonneg]
  rfl
theorem itoa_of {n : Int} (h0 : 0 ≤ n) (h : n ≤ 9223372036854775807) : strconv_Itoa n = some (bs (dec n.toNat)) := by
  have := itoa_nat (n := n.toNat) (by omega)
  rwa [show ((n.toNat : Nat) : Int) = n by omega] at this
theorem s_dec_loop (n : Nat) (hn : n ≤ 9223372036854775807) (fu : Nat) (hf : 30 ≤ fu) : ∃ j, whileL s_l17Dec_b1 fu ((n : Int), (⟨#[]⟩ : ByteArray)) = some j ∧ ∃ (m : Nat) (o : List UInt8), j = .nx ((m : Int), bs o) ∧ m < 10 ∧ dec n = dec m ++ o := by
  refine while_inv (fun k s => ∃ (m : Nat) (o : List UInt8), s = ((m : Int), bs o) ∧ m ≤ n ∧ dec n = dec m ++ o ∧ k = (dec m).length) _ ?_ fu (dec n).length _ ⟨n, [], rfl, Nat.le_refl _, by simp, rfl⟩ (by have := dec_len20 hn; omega)
  rintro k s ⟨m, o, rfl, hm, hd, rfl⟩
  unfold s_l17Dec_b1
  by_cases h : m < 10
  · simp only []
    rw [if_neg (by simp only [decide_eq_true_eq]; omega)]
    exact ⟨_, rfl, m, o, rfl, h, hd⟩
  · simp only []
    have hl := dec_len20 hn
    rw [hd, List.length_append] at hl
    have hm1 := dec_pos m
    rw [if_pos (by simp only [decide_eq_true_eq]; omega), show Int.tmod (m : Int) 10 = ((m % 10 : Nat) : Int) from by rw [Int.tmod_eq_emod_of_nonneg (by omega)]; omega,
      show (i64 (48 + ((m % 10 : Nat) : Int))) = ((48 + m % 10 : Nat) : Int) from by rw [i64_id (by omega) (by omega)]; omega, u8w_nat (by omega), cat_bs (by simp; omega), Option.bind_some]
    refine ⟨_, rfl, _, ?_, m / 10, UInt8.ofNat (48 + m % 10) :: o, ?_, by omega, ?_, rfl⟩
    · rw [dec_big h]; simp
    · rw [show Int.tdiv (m : Int) 10 = ((m / 10 : Nat) : Int) from by rw [Int.tdiv_eq_ediv_of_nonneg (by omega)]; omega, i64_id (by omega) (by omega)]
      rfl
    · rw [hd, dec_big h]; simp
theorem s_dec {n : Nat} (hn : n ≤ 9223372036854775807) {fu : Nat} (hf : 30 ≤ fu) : s_l17Dec fu (n : Int) = some (bs (dec n)) := by
  obtain ⟨k, rfl⟩ : ∃ k, fu = k + 1 := ⟨fu - 1, by omega⟩
  unfold s_l17Dec
  show s_l17Dec_F (k + 1) (s_l17Dec_R (k + 1) k) (n : Int) = _
  unfold s_l17Dec_F
  rw [if_neg (by simp only [decide_eq_true_eq]; omega), if_neg (by simp only [decide_eq_true_eq]; omega)]
  obtain ⟨j, hj, m, o, rfl, hm, hd⟩ := s_dec_loop n hn (k + 1) hf
  rw [hj, Option.bind_some]
  have hl := dec_len20 hn
  rw [hd, List.length_append] at hl
  have hm1 := dec_pos m
  show Option.bind (cat (bs [u8w (i64 (48 + (m : Int)))]) (bs o)) _ = _
  rw [show (i64 (48 + (m : Int))) = ((48 + m : Nat) : Int) from by rw [i64_id (by omega) (by omega)]; omega, u8w_nat (by omega), cat_bs (by simp; omega), Option.bind_some, hd, dec_small hm]
theorem s_dec_of {n : Int} (h0 : 0 ≤ n) (h : n ≤ 9223372036854775807) {fu : Nat} (hf : 30 ≤ fu) : s_l17Dec fu n = some (bs (dec n.toNat)) := by
  have := s_dec (n := n.toNat) (by omega) hf
  rwa [show ((n.toNat : Nat) : Int) = n by omega] at this
end Go.L
namespace Go.L
open Go Go.E
set_option linter.unusedSimpArgs false
set_option linter.unusedVariables false
end Go.L
namespace Go.L
open Go Go.E
set_option linter.unusedVariables false
set_option linter.unusedSimpArgs false
set_option maxRecDepth 100000
def absI (n : Int) : Int := max n (-n)
def okT (t : Term) : Bool := (t.lit != 0 && decide (-12 ≤ t.lit) && decide (t.lit ≤ 12)) && (decide (1 ≤ t.coef) && decide (t.coef ≤ 1000))
def okTerms : Int → List Term → Bool
  | _, [] => true
  | b, t :: ts => (okT t && decide (b < absI t.lit)) && okTerms (absI t.lit) ts
def okB (b : Int) : Bool := decide (0 ≤ b) && decide (b ≤ 20000)
def okCon (c : Con) : Bool := okTerms 0 c.terms && okB c.bound
theorem i_valid_loop : ∀ (ts : List Term) (i : Nat) (b : Int), ∃ b', rangeL i_ConstraintValid_b1 ts i b = some (if okTerms b ts then .nx b' else .out false)
  | [], i, b => ⟨b, rfl⟩
  | t :: ts, i, b => by
    obtain ⟨b', h⟩ := i_valid_loop ts (i + 1) (absI t.lit)
    refine ⟨b', ?_⟩
    show (i_ConstraintValid_b1 i t b).bind _ = _
    have e : i_ConstraintValid_b1 i t b = some (if okT t && decide (b < absI t.lit) then .cont (absI t.lit) else .out false) := by
      unfold i_ConstraintValid_b1 i_isLiteral i_within i_variableOf okT absI
      by_cases h0 : t.lit = 0
      · simp [h0]
      by_cases h1 : -12 ≤ t.lit ∧ t.lit ≤ 12
      · rw [i64_id (n := -t.lit) (by omega) (by omega)]
        by_cases h2 : 1 ≤ t.coef ∧ t.coef ≤ 1000
        · by_cases h3 : b < max t.lit (-t.lit)
          · have : ¬ max t.lit (-t.lit) ≤ b := by omega
            simp [h0, h1.1, h1.2, h2.1, h2.2, h3, this]
          · have : max t.lit (-t.lit) ≤ b := by omega
            simp [h0, h1.1, h1.2, h2.1, h2.2, h3, this]
        · have h2' : (decide (1 ≤ t.coef) && decide (t.coef ≤ 1000)) = false := by simp; omega
          simp only [h2']
          simp [h0, h1.1, h1.2]
      · have h1' : (decide (-12 ≤ t.lit) && decide (t.lit ≤ 12)) = false := by simp; omega
        simp only [Bool.and_assoc, h1']
        simp [h0]
    rw [e, okTerms]
    cases okT t && decide (b < absI t.lit) with
    | true => simpa using h
    | false => rfl
theorem i_valid (c : Con) : i_ConstraintValid c = some (okCon c) := by
  unfold i_ConstraintValid okCon
  obtain ⟨b', h⟩ := i_valid_loop c.terms 0 0
  rw [h]
  cases okTerms 0 c.terms <;> simp [i_within, okB]
theorem s_abs (n : Int) (h1 : -9223372036854775807 ≤ n) (h2 : n ≤ 9223372036854775807) : s_l1Abs n = some (absI n) := by
  unfold s_l1Abs absI
  by_cases h : n < 0
  · rw [if_pos (by simpa using h), i64_id (by omega) (by omega)]; congr 1; omega
  · rw [if_neg (by simpa using h)]; congr 1; omega
theorem okT_lit {t : Term} (h : okT t = true) : t.lit ≠ 0 ∧ -12 ≤ t.lit ∧ t.lit ≤ 12 ∧ 1 ≤ t.coef ∧ t.coef ≤ 1000 := by
  unfold okT at h
  simp at h
  exact ⟨h.1.1.1, h.1.1.2, h.1.2, h.2.1, h.2.2⟩
theorem s_valid_loop (c : Con) (hl : c.terms.length ≤ ML) : ∀ (ts : List Term) (i : Nat) (b : Int), c.terms.drop i = ts → (i = 0 ∧ b = 0 ∨ ∃ t, 0 < i ∧ c.terms[i - 1]? = some t ∧ okT t = true ∧ b = absI t.lit) →
    rangeL (s_ConstraintValid_b1 c) ts i () = some (if okTerms b ts then .nx () else .out false)
  | [], i, b, _, _ => rfl
  | t :: ts, i, b, hd, hb => by
    show (s_ConstraintValid_b1 c i t ()).bind _ = _
    have e : s_ConstraintValid_b1 c i t () = some (if okT t && decide (b < absI t.lit) then .cont () else .out false) := by
      unfold s_ConstraintValid_b1 s_l1Lit
      by_cases hk : okT t = true
      · obtain ⟨h0, h1, h2, h3, h4⟩ := okT_lit hk
        have e1 : ((!((t.lit != 0) && decide (t.lit ≥ -12) && decide (t.lit ≤ 12)) || decide (t.coef < 1)) || decide (t.coef > 1000)) = false := by simp; omega
        simp only [Option.bind_some, e1, hk]
        have hpos : 0 < absI t.lit := by unfold absI; omega
        rcases hb with ⟨rfl, rfl⟩ | ⟨p, hi, hp, hpk, rfl⟩
        · simp [hpos]
        · obtain ⟨q0, q1, q2, _, _⟩ := okT_lit hpk
          have hil := (List.getElem?_eq_some_iff.1 hp).1
          unfold ML at hl
          have hi2 : decide ((i : Int) > 0) = true := by simpa using hi
          have e2 : idx c.terms (i64 ((i : Int) - 1)) = some p := by
            rw [i64_id (by omega) (by omega), show (i : Int) - 1 = ((i - 1 : Nat) : Int) by omega, idx_nat, hp]
          simp only [hi2, e2, Option.bind_some, s_abs p.lit (by omega) (by omega), s_abs t.lit (by omega) (by omega)]
          by_cases h5 : absI p.lit < absI t.lit
          · have : ¬ absI p.lit ≥ absI t.lit := by omega
            simp [h5, this]
          · have : absI p.lit ≥ absI t.lit := by omega
            simp [h5, this]
      · have hk' : okT t = false := by simpa using hk
        have e1 : ((!((t.lit != 0) && decide (t.lit ≥ -12) && decide (t.lit ≤ 12)) || decide (t.coef < 1)) || decide (t.coef > 1000)) = true := by
          cases hx : ((!((t.lit != 0) && decide (t.lit ≥ -12) && decide (t.lit ≤ 12)) || decide (t.coef < 1)) || decide (t.coef > 1000)) with
          | true => rfl
          | false =>
            exfalso
            apply hk
            unfold okT
            simp at hx ⊢
            omega
        simp only [Option.bind_some, e1, hk']
        rfl
    rw [e, okTerms]
    cases hok : okT t && decide (b < absI t.lit) with
    | true =>
      rw [Bool.and_eq_true] at hok
      simpa using s_valid_loop c hl ts (i + 1) (absI t.lit) (drop_next hd) (.inr ⟨t, by omega, by have := drop_idx hd; rw [idx_nat] at this; simpa using this, hok.1, rfl⟩)
    | false => rfl
theorem s_valid (c : Con) (hl : c.terms.length ≤ ML) : s_ConstraintValid c = some (okCon c) := by
  unfold s_ConstraintValid okCon
  rw [s_valid_loop c hl c.terms 0 0 rfl (.inl ⟨rfl, rfl⟩)]
  cases okTerms 0 c.terms <;> simp [okB]
end Go.L
namespace Go.L
open Go Go.E
set_option linter.unusedVariables false
set_option linter.unusedSimpArgs false
set_option maxRecDepth 100000
theorem okTerms_len : ∀ (ts : List Term) (b : Int), 0 ≤ b → okTerms b ts = true → (ts.length : Int) + b ≤ 12 ∨ ts = []
  | [], _, _, _ => .inr rfl
  | t :: ts, b, hb, h => by
    rw [okTerms, Bool.and_eq_true, Bool.and_eq_true] at h
    obtain ⟨⟨h1, h2⟩, h3⟩ := h
    obtain ⟨h0, l1, l2, _, _⟩ := okT_lit h1
    have h2 := of_decide_eq_true h2
    have ha : absI t.lit ≤ 12 := by unfold absI; omega
    left
    rcases okTerms_len ts (absI t.lit) (by omega) h3 with h | h
    · simp; omega
    · subst h; simp; omega
theorem okTerms_all : ∀ (ts : List Term) (b : Int), okTerms b ts = true → ∀ t ∈ ts, okT t = true
  | [], _, _, t, ht => by cases ht
  | t :: ts, b, h, u, hu => by
    rw [okTerms, Bool.and_eq_true, Bool.and_eq_true] at h
    rcases List.mem_cons.1 hu with rfl | hu
    · exact h.1.1
    · exact okTerms_all ts _ h.2 u hu
theorem okCon_parts {c : Con} (h : okCon c = true) : okTerms 0 c.terms = true ∧ c.terms.length ≤ 12 ∧ (∀ t ∈ c.terms, okT t = true) ∧ 0 ≤ c.bound ∧ c.bound ≤ 20000 := by
  unfold okCon okB at h
  simp at h
  refine ⟨h.1, ?_, okTerms_all _ _ h.1, h.2.1, h.2.2⟩
  rcases okTerms_len _ _ (Int.le_refl 0) h.1 with h | h
  · omega
  · rw [h]; simp
end Go.L
namespace Go.L
open Go Go.E
set_option linter.unusedVariables false
set_option linter.unusedSimpArgs false
set_option maxRecDepth 100000
section
variable {α β σ τ : Type}
end
end Go.L
namespace Go.L
open Go Go.E
set_option linter.unusedSimpArgs false
set_option linter.unusedVariables false
set_option maxRecDepth 100000
def litT (l : Int) : List UInt8 := if l < 0 then 126 :: 120 :: dec (-l).toNat else 120 :: dec l.toNat
def okL (l : Int) : Prop := l ≠ 0 ∧ -12 ≤ l ∧ l ≤ 12
theorem litT_len {l : Int} (h : okL l) : (litT l).length ≤ 4 := by
  unfold okL at h
  unfold litT
  split
  · have := dec_len 1 (-l).toNat (by omega); simp only [List.length_cons]; omega
  · have := dec_len 1 l.toNat (by omega); simp only [List.length_cons]; omega
theorem i_litText {l : Int} (h : -1000000 ≤ l ∧ l ≤ 1000000) : i_literalText l = some (bs (litT l)) := by
  unfold i_literalText litT
  split
  · rename_i hl
    have hl := of_decide_eq_true hl
    have := dec_len 6 (-l).toNat (by omega)
    rw [i64_id (by omega) (by omega), itoa_of (by omega) (by omega), Option.bind_some, show (⟨#[126, 120]⟩ : ByteArray) = bs [126, 120] from rfl, cat_bs (by simp only [List.length_cons, List.length_nil]; omega), if_pos hl]
    rfl
  · rename_i hl
    have hl : ¬ l < 0 := by simpa using hl
    have := dec_len 6 l.toNat (by omega)
    rw [itoa_of (by omega) (by omega), Option.bind_some, show (⟨#[120]⟩ : ByteArray) = bs [120] from rfl, cat_bs (by simp only [List.length_cons, List.length_nil]; omega), if_neg hl]
    rfl
theorem s_litText {l : Int} (h : -1000000 ≤ l ∧ l ≤ 1000000) {fu : Nat} (hf : 30 ≤ fu) : s_l1Name fu l = some (bs (litT l)) := by
  unfold s_l1Name litT
  split
  · rename_i hl
    have hl := of_decide_eq_true hl
    have := dec_len 6 (-l).toNat (by omega)
    rw [i64_id (by omega) (by omega), s_dec_of (by omega) (by omega) hf, Option.bind_some, show (⟨#[126, 120]⟩ : ByteArray) = bs [126, 120] from rfl, cat_bs (by simp only [List.length_cons, List.length_nil]; omega), if_pos hl]
    rfl
  · rename_i hl
    have hl : ¬ l < 0 := by simpa using hl
    have := dec_len 6 l.toNat (by omega)
    rw [s_dec_of (by omega) (by omega) hf, Option.bind_some, show (⟨#[120]⟩ : ByteArray) = bs [120] from rfl, cat_bs (by simp only [List.length_cons, List.length_nil]; omega), if_neg hl]
    rfl
def termT (t : Term) : List UInt8 := dec t.coef.toNat ++ 32 :: litT t.lit ++ [32]
def conT (c : Con) : List UInt8 := c.terms.flatMap termT ++ [62, 61, 32] ++ dec c.bound.toNat
theorem okT_L {t : Term} (h : okT t = true) : okL t.lit := ⟨(okT_lit h).1, (okT_lit h).2.1, (okT_lit h).2.2.1⟩
theorem termT_len {t : Term} (h : okT t = true) : (termT t).length ≤ 10 := by
  have h1 := okT_lit h
  have h2 := litT_len (okT_L h)
  have h3 := dec_len 3 t.coef.toNat (by omega)
  unfold termT
  simp only [List.length_append, List.length_cons, List.length_nil]
  omega
theorem terms_len : ∀ {ts : List Term}, (∀ t ∈ ts, okT t = true) → (ts.flatMap termT).length ≤ 10 * ts.length
  | [], _ => by simp
  | t :: ts, h => by
    have h1 := termT_len (h t (by simp))
    have h2 := terms_len (ts := ts) fun x hx => h x (by simp [hx])
    rw [List.flatMap_cons, List.length_append, List.length_cons]
    omega
theorem conT_len {c : Con} (h : okCon c = true) : (conT c).length ≤ 128 := by
  obtain ⟨_, h2, h3, h4, h5⟩ := okCon_parts h
  have h6 := terms_len h3
  have h7 := dec_len 4 c.bound.toNat (by omega)
  unfold conT
  simp only [List.length_append, List.length_cons, List.length_nil]
  omega
theorem flat_take {α β : Type} (f : α → List β) {xs : List α} {i : Nat} {x : α} (h : xs[i]? = some x) : (xs.take (i + 1)).flatMap f = (xs.take i).flatMap f ++ f x := by
  rw [List.take_add_one, h, Option.toList_some, List.flatMap_append]
  simp
theorem i_text {c : Con} (h : okCon c = true) : i_Constraint_text c = some (bs (conT c)) := by
  obtain ⟨_, h2, h3, h4, h5⟩ := okCon_parts h
  unfold i_Constraint_text
  have hl := range_to (b := i_Constraint_text_b1) (fun i => bs ((c.terms.take i).flatMap termT)) c.terms fun i t ht => by
    have hok := h3 t (List.mem_of_getElem? ht)
    have h1 := okT_lit hok
    have hL := okT_L hok
    have e1 := litT_len hL
    have e2 := dec_len 3 t.coef.toNat (by omega)
    have e3 := terms_len (ts := c.terms.take i) fun x hx => h3 x (List.mem_of_mem_take hx)
    have e4 : (c.terms.take i).length ≤ 12 := by rw [List.length_take]; omega
    unfold i_Constraint_text_b1
    rw [itoa_of (by omega) (by omega), Option.bind_some, show (⟨#[32]⟩ : ByteArray) = bs [32] from rfl, cat_bs (by simp only [List.length_cons, List.length_nil]; omega), Option.bind_some, i_litText (by omega), Option.bind_some,
      cat_bs (by simp only [List.length_append, List.length_cons, List.length_nil]; omega), Option.bind_some, cat_bs (by simp only [List.length_append, List.length_cons, List.length_nil]; omega), Option.bind_some,
      cat_bs (by simp only [List.length_append, List.length_cons, List.length_nil]; omega), Option.bind_some, flat_take termT ht]
    unfold termT
    simp only [List.append_assoc, List.cons_append, List.nil_append]
  have e3 := terms_len h3
  have e5 := dec_len 4 c.bound.toNat (by omega)
  rw [show (⟨#[]⟩ : ByteArray) = bs ((c.terms.take 0).flatMap termT) from rfl, hl, Option.bind_some]
  simp only [List.take_length]
  rw [show (⟨#[62, 61, 32]⟩ : ByteArray) = bs [62, 61, 32] from rfl, cat_bs (by simp only [List.length_cons, List.length_nil]; omega), Option.bind_some, itoa_of h4 (by omega), Option.bind_some,
    cat_bs (by simp only [List.length_append, List.length_cons, List.length_nil]; omega), Option.bind_some]
  rfl
theorem s_text {c : Con} (h : okCon c = true) {fu : Nat} (hf : 30 ≤ fu) : s_l1Text fu c = some (bs (conT c)) := by
  obtain ⟨_, h2, h3, h4, h5⟩ := okCon_parts h
  unfold s_l1Text
  have hl := range_to (b := s_l1Text_b1 fu) (fun i => bs ((c.terms.take i).flatMap termT)) c.terms fun i t ht => by
    have hok := h3 t (List.mem_of_getElem? ht)
    have h1 := okT_lit hok
    have hL := okT_L hok
    have e1 := litT_len hL
    have e2 := dec_len 3 t.coef.toNat (by omega)
    have e3 := terms_len (ts := c.terms.take i) fun x hx => h3 x (List.mem_of_mem_take hx)
    have e4 : (c.terms.take i).length ≤ 12 := by rw [List.length_take]; omega
    unfold s_l1Text_b1
    rw [s_dec_of (by omega) (by omega) hf, Option.bind_some, show (⟨#[32]⟩ : ByteArray) = bs [32] from rfl, cat_bs (by omega), Option.bind_some, cat_bs (by simp only [List.length_append, List.length_cons, List.length_nil]; omega), Option.bind_some, s_litText (by omega) hf, Option.bind_some,
      cat_bs (by simp only [List.length_append, List.length_cons, List.length_nil]; omega), Option.bind_some, cat_bs (by simp only [List.length_append, List.length_cons, List.length_nil]; omega), Option.bind_some, flat_take termT ht]
    unfold termT
    simp only [List.append_assoc, List.cons_append, List.nil_append]
  have e3 := terms_len h3
  have e5 := dec_len 4 c.bound.toNat (by omega)
  rw [show (⟨#[]⟩ : ByteArray) = bs ((c.terms.take 0).flatMap termT) from rfl, hl, Option.bind_some]
  simp only [List.take_length]
  rw [show (⟨#[62, 61, 32]⟩ : ByteArray) = bs [62, 61, 32] from rfl, cat_bs (by simp only [List.length_cons, List.length_nil]; omega), Option.bind_some, s_dec_of h4 (by omega) hf, Option.bind_some,
    cat_bs (by simp only [List.length_append, List.length_cons, List.length_nil]; omega), Option.bind_some]
  rfl
end Go.L
namespace Go.L
open Go Go.E
set_option linter.unusedVariables false
set_option linter.unusedSimpArgs false
set_option maxRecDepth 100000
theorem equal_list {α : Type} [DecidableEq α] (s1 s2 : List α) {b : Nat → α → Unit → Option (Lo Unit Bool)} (hb : ∀ (i : Nat) x, b i x () = (idx s2 (i : Int)).bind fun y => if decide (x = y) then some (.cont ()) else some (.out false)) (hl : s1.length = s2.length) :
    rangeL b s1 0 () = some (if decide (s1 = s2) then .nx () else .out false) := by
  rw [range_allI (fun i x => decide (s2[i]? = some x)) false s1 fun i x hx => by
    have hi := (List.getElem?_eq_some_iff.1 hx).1
    have h2 : i < s2.length := by omega
    rw [hb, idx_nat, List.getElem?_eq_getElem h2, Option.bind_some]
    by_cases h : x = s2[i]
    · simp [h]
    · simp [h, Ne.symm h]]
  congr 2
  have : allFrom (fun i x => decide (s2[i]? = some x)) s1 0 = decide (s1 = s2) := by
    rw [Bool.eq_iff_iff, allFrom_iff]
    simp only [decide_eq_true_eq, Nat.zero_add]
    constructor
    · intro h
      apply List.ext_getElem?
      intro i
      cases h1 : s1[i]? with
      | some x => rw [h i x h1]
      | none => rw [List.getElem?_eq_none_iff] at h1; rw [List.getElem?_eq_none (by omega)]
    · intro h i x hx
      rw [← h]; exact hx
  rw [this]
theorem i_equal (s1 s2 : List Term) : slices_Equal_implTerm s1 s2 = some (decide (s1 = s2)) := by
  unfold slices_Equal_implTerm
  by_cases hl : s1.length = s2.length
  · rw [if_neg (by simp [hl]), equal_list s1 s2 (b := slices_Equal_implTerm_b1 s2) (fun i x => by
      rw [slices_Equal_implTerm_b1]
      congr 1
      funext y
      by_cases h : x = y <;> simp [h]) hl]
    by_cases h : s1 = s2 <;> simp [h]
  · rw [if_pos (by simp; omega), decide_eq_false (by intro h; rw [h] at hl; exact hl rfl)]
theorem i_same (a b : Con) : i_ConstraintSame a b = some (decide (a = b)) := by
  unfold i_ConstraintSame
  rw [i_equal]
  obtain ⟨t1, b1⟩ := a
  obtain ⟨t2, b2⟩ := b
  by_cases h1 : b1 = b2
  · by_cases h2 : t1 = t2 <;> simp [h1, h2]
  · simp [h1]
def noC (c : Con) : Bool := ((c.terms.length : Int) == 0) && (c.bound == 0)
def partsB (s : Step) : Bool :=
  if s.kind = 1 ∨ s.kind = 2 ∨ s.kind = 3 ∨ s.kind = 5 then noC s.given
  else if s.kind = 4 ∨ s.kind = 6 ∨ s.kind = 8 then noC s.given && s.b == 0
  else if s.kind = 7 then s.a == 0 && s.b == 0 else false
theorem kind_cases (k : Int) : k = 1 ∨ k = 2 ∨ k = 3 ∨ k = 4 ∨ k = 5 ∨ k = 6 ∨ k = 7 ∨ k = 8 ∨ (k ≠ 1 ∧ k ≠ 2 ∧ k ≠ 3 ∧ k ≠ 4 ∧ k ≠ 5 ∧ k ≠ 6 ∧ k ≠ 7 ∧ k ≠ 8) := by omega
theorem noC_eq (c : Con) : decide (c = ⟨[], 0⟩) = noC c := by
  obtain ⟨ts, b⟩ := c
  unfold noC
  cases ts with
  | nil => by_cases h : b = 0 <;> simp [h]
  | cons t ts => simp; omega
theorem s_parts (s : Step) : s_l4Parts s = some (partsB s) := by
  unfold s_l4Parts partsB noC
  obtain ⟨kind, a, b, given⟩ := s
  simp only
  rcases kind_cases kind with h | h | h | h | h | h | h | h | ⟨h1, h2, h3, h4, h5, h6, h7, h8⟩
  all_goals first | (subst h; simp) | simp [h1, h2, h3, h4, h5, h6, h7, h8]
def refersB (k : Int) : Int × Bool := if k = 1 then (2, false) else if k = 2 ∨ k = 3 ∨ k = 5 then (1, true) else if k = 4 ∨ k = 8 then (1, false) else if k = 6 ∨ k = 7 then (0, false) else (-1, false)
theorem i_ref (k : Int) : i_refers k = some (refersB k) := by
  unfold i_refers refersB
  rcases kind_cases k with h | h | h | h | h | h | h | h | ⟨h1, h2, h3, h4, h5, h6, h7, h8⟩
  all_goals first | (subst h; simp) | simp [h1, h2, h3, h4, h5, h6, h7, h8]
theorem i_shaped (s : Step) : i_Step_shaped s = some (partsB s) := by
  unfold i_Step_shaped partsB
  rw [i_ref, i_same, noC_eq, Option.bind_some]
  obtain ⟨kind, a, b, given⟩ := s
  simp only [refersB]
  rcases kind_cases kind with h | h | h | h | h | h | h | h | ⟨h1, h2, h3, h4, h5, h6, h7, h8⟩
  all_goals first | (subst h; (by_cases ha : a = 0) <;> (by_cases hb : b = 0) <;> simp [ha, hb]) | simp [h1, h2, h3, h4, h5, h6, h7, h8]
end Go.L
namespace Go.L
open Go Go.E
set_option linter.unusedSimpArgs false
set_option linter.unusedVariables false
set_option maxRecDepth 100000
def wordS (k : Int) : List UInt8 :=
  if k = 1 then [97, 100, 100] else if k = 2 then [109, 117, 108, 116, 105, 112, 108, 121] else if k = 3 then [100, 105, 118, 105, 100, 101] else if k = 4 then [115, 97, 116, 117, 114, 97, 116, 101]
  else if k = 5 then [119, 101, 97, 107, 101, 110] else if k = 6 then [108, 105, 116, 101, 114, 97, 108] else if k = 7 then [114, 117, 112] else [100, 101, 108, 101, 116, 101]
def argT (s : Step) : List UInt8 :=
  if s.kind = 7 then conT s.given else if s.kind = 6 then litT s.a else if s.kind = 4 ∨ s.kind = 8 then dec s.a.toNat else dec s.a.toNat ++ 32 :: dec s.b.toNat
def lineS (s : Step) : List UInt8 := wordS s.kind ++ 32 :: argT s
def litB (l : Int) : Bool := l != 0 && (decide (-12 ≤ l) && decide (l ≤ 12))
def writeB (s : Step) : Bool := partsB s && (if s.kind = 7 then okCon s.given else if s.kind = 6 then litB s.a else okB s.a && okB s.b)
def fmtS (xs : List Step) : List UInt8 := if xs.length ≤ 1000 ∧ xs.all writeB = true then xs.flatMap (fun s => lineS s ++ [10]) else []
theorem litB_iff {l : Int} : litB l = true ↔ okL l := by
  unfold litB okL
  simp
theorem okB_iff {n : Int} : okB n = true ↔ 0 ≤ n ∧ n ≤ 20000 := by unfold okB; simp
theorem kinds_of {s : Step} (h : writeB s = true) : 1 ≤ s.kind ∧ s.kind ≤ 8 ∧ ((s.kind = 7 ∧ okCon s.given = true) ∨ (s.kind = 6 ∧ okL s.a) ∨ ((s.kind ≠ 7 ∧ s.kind ≠ 6) ∧ (0 ≤ s.a ∧ s.a ≤ 20000) ∧ 0 ≤ s.b ∧ s.b ≤ 20000)) := by
  unfold writeB at h
  rw [Bool.and_eq_true] at h
  have hk : 1 ≤ s.kind ∧ s.kind ≤ 8 := by
    have := h.1
    unfold partsB at this
    split at this
    · omega
    · split at this
      · omega
      · split at this
        · omega
        · cases this
  refine ⟨hk.1, hk.2, ?_⟩
  have h2 := h.2
  split at h2
  · exact .inl ⟨‹_›, h2⟩
  · split at h2
    · exact .inr (.inl ⟨‹_›, litB_iff.1 h2⟩)
    · rw [Bool.and_eq_true] at h2
      exact .inr (.inr ⟨⟨‹_›, ‹_›⟩, okB_iff.1 h2.1, okB_iff.1 h2.2⟩)
theorem wordS_len (k : Int) : 3 ≤ (wordS k).length ∧ (wordS k).length ≤ 8 := by
  unfold wordS
  repeat' split
  all_goals decide
theorem argT_len {s : Step} (h : writeB s = true) : (argT s).length ≤ 128 := by
  obtain ⟨_, _, ⟨hk, hc⟩ | ⟨hk, hl⟩ | ⟨hk, ha, hb⟩⟩ := kinds_of h
  · unfold argT; rw [if_pos hk]; exact conT_len hc
  · unfold argT
    rw [if_neg (by omega), if_pos hk]
    have := litT_len hl
    omega
  · have h1 := dec_len 4 s.a.toNat (by omega)
    have h2 := dec_len 4 s.b.toNat (by omega)
    unfold argT
    rw [if_neg hk.1, if_neg hk.2]
    split
    · omega
    · simp only [List.length_append, List.length_cons]; omega
theorem lineS_len {s : Step} (h : writeB s = true) : 4 ≤ (lineS s).length ∧ (lineS s).length ≤ 140 := by
  have h1 := argT_len h
  have h2 := wordS_len s.kind
  unfold lineS
  simp only [List.length_append, List.length_cons]
  omega
theorem i_isLit (l : Int) : i_isLiteral l = some (litB l) := by
  unfold i_isLiteral i_within litB
  simp only [Option.bind_some]
  cases (l != 0) <;> simp
theorem i_write (s : Step) : i_Step_writable s = some (writeB s) := by
  unfold i_Step_writable writeB
  rw [i_shaped, Option.bind_some]
  cases hp : partsB s with
  | false => rfl
  | true =>
    simp only [Bool.not_true, Bool.false_eq_true, if_false, Bool.true_and]
    by_cases h6 : s.kind = 6
    · rw [if_pos (by simp [h6]), i_isLit, if_neg (by omega), if_pos h6]
      rfl
    · rw [if_neg (by simpa using h6), if_neg h6]
      by_cases h7 : s.kind = 7
      · rw [if_pos (by simp [h7]), i_valid, if_pos h7]
        rfl
      · rw [if_neg (by simpa using h7), if_neg h7]
        unfold i_within okB
        simp only [Option.bind_some]
        cases (decide (0 ≤ s.a) && decide (s.a ≤ 20000)) <;> simp
theorem words_at {k : Int} (h : 1 ≤ k ∧ k ≤ 8) : idx [(⟨#[]⟩ : ByteArray), (⟨#[97, 100, 100]⟩ : ByteArray), (⟨#[109, 117, 108, 116, 105, 112, 108, 121]⟩ : ByteArray), (⟨#[100, 105, 118, 105, 100, 101]⟩ : ByteArray), (⟨#[115, 97, 116, 117, 114, 97, 116, 101]⟩ : ByteArray), (⟨#[119, 101, 97, 107, 101, 110]⟩ : ByteArray), (⟨#[108, 105, 116, 101, 114, 97, 108]⟩ : ByteArray), (⟨#[114, 117, 112]⟩ : ByteArray), (⟨#[100, 101, 108, 101, 116, 101]⟩ : ByteArray)] k = some (bs (wordS k)) := by
  rcases (show k = 1 ∨ k = 2 ∨ k = 3 ∨ k = 4 ∨ k = 5 ∨ k = 6 ∨ k = 7 ∨ k = 8 by omega) with e | e | e | e | e | e | e | e <;> rw [e] <;> rfl
theorem i_stepT {s : Step} (h : writeB s = true) : i_Step_text s = some (bs (lineS s)) := by
  have hw := wordS_len s.kind
  have hla := argT_len h
  obtain ⟨k1, k8, hc⟩ := kinds_of h
  unfold i_Step_text i_stepWords lineS
  rw [Option.bind_some, words_at ⟨k1, k8⟩, Option.bind_some, show (⟨#[32]⟩ : ByteArray) = bs [32] from rfl, cat_bs (by simp only [List.length_cons, List.length_nil]; omega), Option.bind_some, i_ref, Option.bind_some]
  rcases hc with ⟨hk, hc⟩ | ⟨hk, hl⟩ | ⟨⟨hk7, hk6⟩, ha, hb⟩
  · have hl := conT_len hc
    rw [if_neg (by simp [hk]), if_pos (by simp [hk]), i_text hc, Option.bind_some, cat_bs (by simp only [List.length_append, List.length_cons, List.length_nil]; omega), Option.bind_some]
    unfold argT
    rw [if_pos hk]
    simp
  · have hll := litT_len hl
    have hl := hl.2
    rw [if_pos (by simp [hk]), i_litText (by omega), Option.bind_some, cat_bs (by simp only [List.length_append, List.length_cons, List.length_nil]; omega), Option.bind_some]
    unfold argT
    rw [if_neg (by omega), if_pos hk]
    simp
  · have h1 := dec_len 4 s.a.toNat (by omega)
    have h2 := dec_len 4 s.b.toNat (by omega)
    rw [if_neg (by simpa using hk6), if_neg (by simpa using hk7)]
    unfold argT
    rw [if_neg hk7, if_neg hk6]
    unfold refersB
    rcases (show s.kind = 1 ∨ s.kind = 2 ∨ s.kind = 3 ∨ s.kind = 4 ∨ s.kind = 5 ∨ s.kind = 8 by omega) with e | e | e | e | e | e
    all_goals
      simp only [e, itoa_of ha.1 (show s.a ≤ 9223372036854775807 by omega), Option.bind_some]
      rw [cat_bs (by rw [← e]; simp only [List.length_append, List.length_cons, List.length_nil]; omega)]
      simp only [Option.bind_some, itoa_of hb.1 (show s.b ≤ 9223372036854775807 by omega)]
      simp
    all_goals
      rw [cat_bs (by rw [← e]; simp only [List.length_append, List.length_cons, List.length_nil]; omega), Option.bind_some, cat_bs (by rw [← e]; simp only [List.length_append, List.length_cons, List.length_nil]; omega)]
      simp
theorem s_lineT (s : Step) (hl : s.given.terms.length ≤ ML) {fu : Nat} (hf : 30 ≤ fu) : s_l4Line fu s = some (bs (if writeB s then lineS s else [])) := by
  unfold s_l4Line
  rw [s_parts, Option.bind_some]
  have hno : ∀ {b : Bool}, b = false → (bs (if (b = true) then lineS s else []) : ByteArray) = ⟨#[]⟩ := by rintro b rfl; rfl
  cases hp : partsB s with
  | false =>
    have : writeB s = false := by unfold writeB; rw [hp]; rfl
    rw [hno this]
    rfl
  | true =>
    have hk : 1 ≤ s.kind ∧ s.kind ≤ 8 := by
      unfold partsB at hp
      split at hp
      · omega
      · split at hp
        · omega
        · split at hp
          · omega
          · cases hp
    have hw := wordS_len s.kind
    unfold s_l4Words
    rw [if_neg (by simp), Option.bind_some, words_at hk, Option.bind_some]
    by_cases h7 : s.kind = 7
    · rw [if_pos (by simp [h7]), s_valid _ hl, Option.bind_some]
      have e : writeB s = okCon s.given := by unfold writeB; rw [hp, if_pos h7]; rfl
      cases hc : okCon s.given with
      | false => rw [hno (e.trans hc)]; rfl
      | true =>
        have hcl := conT_len hc
        rw [if_neg (by simp), show (⟨#[32]⟩ : ByteArray) = bs [32] from rfl, cat_bs (by simp only [List.length_cons, List.length_nil]; omega), Option.bind_some, s_text hc hf, Option.bind_some, cat_bs (by simp only [List.length_append, List.length_cons, List.length_nil]; omega), Option.bind_some,
          if_pos (e.trans hc)]
        unfold lineS argT
        rw [if_pos h7]
        simp
    · rw [if_neg (by simpa using h7)]
      by_cases h6 : s.kind = 6
      · rw [if_pos (by simp [h6])]
        have e : writeB s = litB s.a := by unfold writeB; rw [hp, if_neg h7, if_pos h6]; rfl
        have e1 : s_l1Lit s.a = some (litB s.a) := by
          unfold s_l1Lit litB
          rw [Bool.and_assoc]
        rw [e1, Option.bind_some]
        cases hc : litB s.a with
        | false => rw [hno (e.trans hc)]; rfl
        | true =>
          have hL := litB_iff.1 hc
          have hll := litT_len hL
          have hL := hL.2
          rw [if_neg (by simp), show (⟨#[32]⟩ : ByteArray) = bs [32] from rfl, cat_bs (by simp only [List.length_cons, List.length_nil]; omega), Option.bind_some, s_litText (by omega) hf, Option.bind_some, cat_bs (by simp only [List.length_append, List.length_cons, List.length_nil]; omega), Option.bind_some,
            if_pos (e.trans hc)]
          unfold lineS argT
          rw [if_neg h7, if_pos h6]
          simp
      · rw [if_neg (by simpa using h6)]
        have e : writeB s = (okB s.a && okB s.b) := by unfold writeB; rw [hp, if_neg h7, if_neg h6]; rfl
        by_cases hr : (0 ≤ s.a ∧ s.a ≤ 20000) ∧ 0 ≤ s.b ∧ s.b ≤ 20000
        · obtain ⟨ha, hb⟩ := hr
          have h1 := dec_len 4 s.a.toNat (by omega)
          have h2 := dec_len 4 s.b.toNat (by omega)
          rw [if_neg (by simp only [Bool.or_eq_true, decide_eq_true_eq, not_or]; omega), show (⟨#[32]⟩ : ByteArray) = bs [32] from rfl, cat_bs (by simp only [List.length_cons, List.length_nil]; omega), Option.bind_some, s_dec_of ha.1 (by omega) hf, Option.bind_some,
            cat_bs (by simp only [List.length_append, List.length_cons, List.length_nil]; omega), Option.bind_some, if_pos (e.trans (by rw [okB_iff.2 ha, okB_iff.2 hb]; rfl))]
          unfold lineS argT
          rw [if_neg h7, if_neg h6]
          by_cases h48 : s.kind = 4 ∨ s.kind = 8
          · rw [if_neg (by rcases h48 with e | e <;> simp [e]), if_pos h48]
            simp
          · rw [if_pos (by simp; omega), if_neg h48, cat_bs (by simp only [List.length_append, List.length_cons, List.length_nil]; omega), Option.bind_some, s_dec_of hb.1 (by omega) hf, Option.bind_some, cat_bs (by simp only [List.length_append, List.length_cons, List.length_nil]; omega)]
            simp
        · have : writeB s = false := by
            rw [e]
            cases h1 : okB s.a with
            | false => rfl
            | true =>
              cases h2 : okB s.b with
              | false => rfl
              | true => exact absurd ⟨okB_iff.1 h1, okB_iff.1 h2⟩ hr
          rw [if_pos (by simp only [Bool.or_eq_true, decide_eq_true_eq]; omega), hno this]
theorem lines_next {xs : List Step} {i : Nat} {s : Step} (h : xs[i]? = some s) : (xs.take (i + 1)).flatMap (fun s => lineS s ++ [10]) = (xs.take i).flatMap (fun s => lineS s ++ [10]) ++ (lineS s ++ [10]) := flat_take _ h
theorem lines_len : ∀ {xs : List Step}, (∀ s ∈ xs, writeB s = true) → (xs.flatMap (fun s => lineS s ++ [10])).length ≤ 141 * xs.length
  | [], _ => by simp
  | s :: xs, h => by
    have h1 := (lineS_len (h s (by simp))).2
    have h2 := lines_len (xs := xs) fun x hx => h x (by simp [hx])
    simp only [List.flatMap_cons, List.length_append, List.length_cons, List.length_nil]
    omega
theorem all_take {xs : List Step} {i : Nat} {s : Step} (h : xs[i]? = some s) (ha : ∀ x ∈ xs.take i, writeB x = true) (hs : writeB s = true) : ∀ x ∈ xs.take (i + 1), writeB x = true := by
  intro x hx
  rw [List.take_add_one, h, Option.toList_some] at hx
  rcases List.mem_append.1 hx with h1 | h1
  · exact ha x h1
  · rw [List.mem_singleton.1 h1]; exact hs
theorem lines_loop {b : Nat → Step → ByteArray → Option (Lo ByteArray ByteArray)} (xs : List Step) (hl : xs.length ≤ 1000)
    (hb : ∀ i s (o : List UInt8), xs[i]? = some s → o.length ≤ 141000 → b i s (bs o) = some (if writeB s then .cont (bs (o ++ (lineS s ++ [10]))) else .out (bs []))) :
    ∃ j, rangeL b xs 0 (bs []) = some j ∧ (match j with | .nx o => o | .out t => t) = bs (if xs.all writeB = true then xs.flatMap (fun s => lineS s ++ [10]) else []) := by
  refine range_inv xs (fun i o => (∀ x ∈ xs.take i, writeB x = true) ∧ o = bs ((xs.take i).flatMap (fun s => lineS s ++ [10]))) (fun j => (match j with | .nx o => o | .out t => t) = bs (if xs.all writeB = true then xs.flatMap (fun s => lineS s ++ [10]) else []))
    ?_ ?_ _ ⟨by simp, by simp⟩
  · rintro o ⟨h1, h2⟩
    rw [List.take_length] at h1 h2
    rw [if_pos (List.all_eq_true.2 h1)]
    exact h2
  · rintro i s o hs ⟨h1, rfl⟩
    have h2 := lines_len h1
    have h3 : (xs.take i).length ≤ xs.length := by rw [List.length_take]; omega
    rw [hb i s _ hs (by omega)]
    cases hw : writeB s with
    | true =>
      simp only [if_true]
      exact ⟨_, rfl, all_take hs h1 hw, by rw [lines_next hs]⟩
    | false =>
      refine ⟨_, rfl, ?_⟩
      simp only [Bool.false_eq_true, if_false]
      rw [if_neg]
      intro h
      have := List.all_eq_true.1 h s (List.mem_of_getElem? hs)
      rw [hw] at this
      cases this
theorem i_fmtS (xs : List Step) : i_FormatProof xs = some (bs (fmtS xs)) := by
  unfold i_FormatProof fmtS
  by_cases hl : xs.length ≤ 1000
  · rw [if_neg (by simp only [decide_eq_true_eq]; omega)]
    obtain ⟨j, hj, hj2⟩ := lines_loop (b := i_FormatProof_b1) xs hl fun i s o hs ho => by
      unfold i_FormatProof_b1
      simp only []
      rw [i_write, Option.bind_some]
      cases hw : writeB s with
      | false => rfl
      | true =>
        have h1 := lineS_len hw
        rw [if_neg (by simp), i_stepT hw, Option.bind_some, show (⟨#[10]⟩ : ByteArray) = bs [10] from rfl, cat_bs (by simp only [List.length_cons, List.length_nil]; omega), Option.bind_some, catB_bs (by simp only [List.length_append, List.length_cons, List.length_nil]; omega)]
        rfl
    rw [show (ByteArray.empty : ByteArray) = bs [] from rfl, hj, Option.bind_some]
    have e : (xs.length ≤ 1000 ∧ xs.all writeB = true) ↔ xs.all writeB = true := ⟨fun h => h.2, fun h => ⟨hl, h⟩⟩
    simp only [e]
    cases j with
    | nx o => exact congrArg some hj2
    | out t => exact congrArg some hj2
  · rw [if_pos (by simp only [decide_eq_true_eq]; omega), if_neg (fun h => hl h.1)]
    rfl
theorem s_fmtS (xs : List Step) (hg : ∀ s ∈ xs, s.given.terms.length ≤ ML) {fu : Nat} (hf : 30 ≤ fu) : s_FormatProof fu xs = some (bs (fmtS xs)) := by
  unfold s_FormatProof fmtS
  by_cases hl : xs.length ≤ 1000
  · rw [if_neg (by simp only [decide_eq_true_eq]; omega)]
    obtain ⟨j, hj, hj2⟩ := lines_loop (b := s_FormatProof_b1 fu) xs hl fun i s o hs ho => by
      unfold s_FormatProof_b1
      simp only []
      rw [s_lineT s (hg s (List.mem_of_getElem? hs)) hf, Option.bind_some, show (⟨#[]⟩ : ByteArray) = bs [] from rfl, eq_bs]
      cases hw : writeB s with
      | false => rfl
      | true =>
        have h1 := lineS_len hw
        have h2 : (lineS s == []) = false := by
          cases h : lineS s with
          | nil => rw [h] at h1; simp at h1
          | cons x r => rfl
        simp only [if_true, h2, Bool.false_eq_true, if_false]
        rw [cat_bs (by omega), Option.bind_some, show (⟨#[10]⟩ : ByteArray) = bs [10] from rfl, cat_bs (by simp only [List.length_append, List.length_cons, List.length_nil]; omega), Option.bind_some, List.append_assoc]
    rw [show (⟨#[]⟩ : ByteArray) = bs [] from rfl, hj, Option.bind_some]
    have e : (xs.length ≤ 1000 ∧ xs.all writeB = true) ↔ xs.all writeB = true := ⟨fun h => h.2, fun h => ⟨hl, h⟩⟩
    simp only [e]
    cases j with
    | nx o => exact congrArg some hj2
    | out t => exact congrArg some hj2
  · rw [if_pos (by simp only [decide_eq_true_eq]; omega), if_neg (fun h => hl h.1)]
    rfl
end Go.L
namespace Go.L
open Go Go.E
set_option linter.unusedVariables false
def SzOk (r left : Int) (good : Prop) : Prop := r < 0 ∨ (0 ≤ r ∧ r ≤ left ∧ good)
theorem sz_len {α : Type} {a : List α} {left : Int} {one : Option Int} (e : one = if decide ((i64 (left - (a.length : Int))) < 0) then (some (-1)) else (some (i64 (left - (a.length : Int))))) (h0 : 0 ≤ left) (h1 : left ≤ 1048576) (ha : a.length ≤ ML) :
    ∃ r, one = some r ∧ SzOk r left (a.length ≤ 1048576) := by
  rw [e]
  unfold ML at ha
  rw [i64_id (by omega) (by omega)]
  by_cases h : left - (a.length : Int) < 0
  · exact ⟨-1, by rw [if_pos (by simpa using h)], .inl (by omega)⟩
  · exact ⟨left - a.length, by rw [if_neg (by simpa using h)], .inr ⟨by omega, by omega, by omega⟩⟩
theorem sz_list {α : Type} {one : α → Int → Option Int} {good : α → Prop} {a : List α} {left : Int} {b : Nat → α → Int → Option (Lo Int Int)} {all : Option Int}
    (e : all = if decide ((i64 (left - (a.length : Int))) < 0) then (some (-1)) else (((rangeL b a 0 (i64 (left - (a.length : Int)))) : Option (Jn Int Int)).bind fun j => match j with | .nx l => (some l) | .out t => some t))
    (hb : ∀ i x l, b i x l = (one x l).bind fun r => if decide (r < 0) then some (.out (-1)) else some (.cont r)) (h0 : 0 ≤ left) (h1 : left ≤ 1048576) (ha : a.length ≤ ML)
    (hone : ∀ x ∈ a, ∀ l, 0 ≤ l → l ≤ 1048576 → ∃ r, one x l = some r ∧ SzOk r l (good x)) :
    ∃ r, all = some r ∧ SzOk r left (a.length ≤ 1048576 ∧ ∀ x ∈ a, good x) := by
  rw [e]
  unfold ML at ha
  rw [i64_id (by omega) (by omega)]
  by_cases h : left - (a.length : Int) < 0
  · exact ⟨-1, by rw [if_pos (by simpa using h)], .inl (by omega)⟩
  · rw [if_neg (by simpa using h)]
    obtain ⟨j, hj, hQ⟩ := range_inv (b := b) a (fun i l => 0 ≤ l ∧ l ≤ left - (a.length : Int) ∧ ∀ x ∈ a.take i, good x)
      (fun j => match j with | .nx l => 0 ≤ l ∧ l ≤ left - (a.length : Int) ∧ ∀ x ∈ a, good x | .out t => t = -1) (fun s hs => by simpa using hs)
      (by
        rintro i x l hx ⟨hl0, hl1, hg⟩
        obtain ⟨r, hr, hok⟩ := hone x (List.mem_of_getElem? hx) l hl0 (by omega)
        rw [hb, hr]
        rcases hok with hn | ⟨p0, p1, p2⟩
        · exact ⟨.out (-1), by simp [hn], rfl⟩
        · refine ⟨.cont r, by simp; omega, p0, by omega, ?_⟩
          intro y hy
          rw [List.take_add_one, hx] at hy
          rcases List.mem_append.1 hy with h | h
          · exact hg y h
          · simp at h; rw [h]; exact p2) (left - a.length) ⟨by omega, by omega, by simp⟩
    rw [hj]
    cases j with
    | nx l => exact ⟨l, rfl, .inr ⟨hQ.1, by have := hQ.2.1; omega, by omega, hQ.2.2⟩⟩
    | out t => exact ⟨t, rfl, .inl (by rw [show t = -1 from hQ]; omega)⟩
theorem sz_end {o : Option Int} {left : Int} {p : Prop} (h : ∃ r, o = some r ∧ SzOk r left p) : ∃ r, (o.bind fun x => if decide (x < 0) then some (-1) else some x) = some r ∧ SzOk r left p := by
  obtain ⟨r, rfl, hok⟩ := h
  rcases hok with hn | ⟨p0, p1, p2⟩
  · exact ⟨-1, by simp [hn], .inl (by omega)⟩
  · exact ⟨r, by rw [Option.bind_some, if_neg (by simp; omega)], .inr ⟨p0, p1, p2⟩⟩
theorem sz_law {o : Option Int} {left : Int} {p : Prop} {k : Int → Option Bool} (h : ∃ r, o = some r ∧ SzOk r left p) (h1 : left ≤ 1048576) (hk : ∀ r, 0 ≤ r → r ≤ 1048576 → p → k r = some true) :
    (o.bind fun x => if decide (x < 0) then some true else k x) = some true := by
  obtain ⟨r, rfl, hok⟩ := h
  rcases hok with hn | ⟨p0, p1, p2⟩
  · simp [hn]
  · rw [Option.bind_some, if_neg (by simp; omega)]
    exact hk r p0 (by omega) p2
theorem copy_list {α : Type} {one : α → Option α} {xs : List α} {z : α} {b : Nat → α → List α → Option (Lo (List α) (List α))} {all : Option (List α)} {k : Jn (List α) (List α) → Option (List α)}
    (e : all = (mkN (xs.length : Int) z).bind fun x1 => (rangeL b xs 0 x1).bind k) (hk : ∀ out, k (.nx out) = some out) (hx : xs.length ≤ 1048576)
    (hb : ∀ i x out, b i x out = (one x).bind fun y => (idx out (i : Int)).bind fun _ => some (.cont (out.set (Int.toNat (i : Int)) y))) (hone : ∀ x ∈ xs, one x = some x) : all = some xs := by
  rw [e, mkN_le z (by omega), Option.bind_some]
  have := range_to (b := b) (fun i => xs.take i ++ List.replicate (xs.length - i) z) xs (by
    intro i x hx
    have hi := (List.getElem?_eq_some_iff.1 hx).1
    rw [hb, hone x (List.mem_of_getElem? hx), Option.bind_some, idx_nat, List.getElem?_append_right (by simp; omega)]
    have hl : (xs.take i).length = i := by simp; omega
    rw [hl, Nat.sub_self, List.getElem?_replicate, if_pos (by omega), Option.bind_some, Int.toNat_natCast]
    congr 2
    rw [List.set_append, if_neg (by rw [hl]; omega), hl, Nat.sub_self, show xs.length - i = (xs.length - (i + 1)) + 1 from by omega, List.replicate_succ, List.set_cons_zero]
    rw [List.take_add_one, hx]
    simp)
  simp only [List.take_zero, List.nil_append, Nat.sub_zero] at this
  rw [this]
  simp [hk]
theorem same_list {α : Type} {one : α → α → Option Bool} {xs : List α} {b : Nat → α → Unit → Option (Lo Unit Bool)} {all : Option Bool} {k : Jn Unit Bool → Option Bool}
    (e : all = if ((xs.length : Int) != (xs.length : Int)) then (some false) else ((rangeL b xs 0 ()).bind k)) (hk : k (.nx ()) = some true)
    (hb : ∀ i x, xs[i]? = some x → b i x () = (one x x).bind fun y => if (!y) then some (.out false) else some (.cont ())) (hone : ∀ x ∈ xs, one x x = some true) : all = some true := by
  rw [e, if_neg (by simp)]
  have h := range_all (fun _ => true) false (b := b) xs (fun i x hx => by rw [hb i x hx, hone x (List.mem_of_getElem? hx)]; rfl)
  rw [h]
  simp [hk]
theorem idx_self {α : Type} {xs : List α} {i : Nat} {x : α} (h : xs[i]? = some x) : idx xs (i : Int) = some x := by rw [idx_nat, h]
end Go.L
namespace Go.L
open Go Go.E
set_option linter.unusedVariables false
set_option linter.unusedSimpArgs false
set_option maxRecDepth 100000
end Go.L
namespace Go.L
open Go Go.E
set_option linter.unusedVariables false
set_option linter.unusedSimpArgs false
set_option maxRecDepth 100000
def smC (c : Con) : Prop := c.terms.length ≤ 1048576
def smSs (xs : List Step) : Prop := xs.length ≤ 1048576 ∧ ∀ s ∈ xs, smC s.given
theorem szCon (a : Con) (left : Int) (h0 : 0 ≤ left) (h1 : left ≤ 1048576) (ha : a.terms.length ≤ ML) : ∃ r, l_szConstraint a left = some r ∧ SzOk r left (smC a) := by
  unfold l_szConstraint
  exact sz_end (sz_len (a := a.terms) rfl h0 h1 ha)
theorem szStep (a : Step) (left : Int) (h0 : 0 ≤ left) (h1 : left ≤ 1048576) (ha : a.given.terms.length ≤ ML) : ∃ r, l_szStep a left = some r ∧ SzOk r left (smC a.given) := by
  unfold l_szStep
  exact sz_end (szCon a.given left h0 h1 ha)
theorem szSteps (a : List Step) (left : Int) (h0 : 0 ≤ left) (h1 : left ≤ 1048576) (ha : a.length ≤ ML) (hel : ∀ s ∈ a, s.given.terms.length ≤ ML) : ∃ r, l_szStepS a left = some r ∧ SzOk r left (smSs a) :=
  sz_list (one := l_szStep) rfl (fun _ _ _ => rfl) h0 h1 ha fun x hx l h0 h1 => szStep x l h0 h1 (hel x hx)
theorem toTerms (a : List Term) (ha : a.length ≤ 1048576) : l_toTermS a = some a := copy_list (one := some) (b := l_toTermS_b1) (z := ⟨0, 0⟩) rfl (fun _ => rfl) ha (by intros; rfl) fun _ _ => rfl
theorem toCon (a : Con) (h : smC a) : l_toConstraint a = some a := by
  unfold l_toConstraint
  rw [toTerms _ h]
  rfl
theorem toStep (a : Step) (h : smC a.given) : l_toStep a = some a := by
  unfold l_toStep
  rw [toCon _ h]
  rfl
theorem toSteps (a : List Step) (h : smSs a) : l_toStepS a = some a :=
  copy_list (one := l_toStep) (b := l_toStepS_b1) (z := ⟨0, 0, 0, ⟨[], 0⟩⟩) rfl (fun _ => rfl) h.1 (by intros; rfl) fun x hx => toStep x (h.2 x hx)
theorem eqTerm (t : Term) : l_eqTerm t t = some true := by
  unfold l_eqTerm
  simp
theorem eqTerms (a : List Term) : l_eqTermS a a = some true :=
  same_list (one := l_eqTerm) rfl rfl (fun i x hx => by show (idx a (i : Int)).bind _ = _; rw [idx_self hx]; rfl) fun x _ => eqTerm x
theorem eqCon (a : Con) : l_eqConstraint a a = some true := by
  unfold l_eqConstraint
  simp [eqTerms]
theorem eqStep (a : Step) : l_eqStep a a = some true := by
  unfold l_eqStep
  simp [eqCon]
theorem eqSteps (a : List Step) : l_eqStepS a a = some true :=
  same_list (one := l_eqStep) rfl rfl (fun i x hx => by show (idx a (i : Int)).bind _ = _; rw [idx_self hx]; rfl) fun x _ => eqStep x
end Go.L
namespace Go.L
open Go Go.E
set_option linter.unusedSimpArgs false
set_option linter.unusedVariables false
theorem FnExactFormatProof_ok (aSteps : List Step) (g0 : gSteps aSteps) : ∃ fu, l_FnExactFormatProof fu aSteps = some true := by
  refine ⟨FU, ?_⟩
  unfold l_FnExactFormatProof
  refine sz_law (szSteps aSteps 1048576 (by omega) (by omega) g0.1 fun s hs => (g0.2 s hs).2.2.2.1.1) (by omega) fun r _ _ hs => ?_
  have hg : ∀ s ∈ aSteps, s.given.terms.length ≤ ML := fun s h => by have := hs.2 s h; unfold smC at this; unfold ML; omega
  simp only [toSteps aSteps hs, Option.bind_some, s_fmtS aSteps hg (show 30 ≤ FU by decide), i_fmtS, eqSteps, eq_bs]
  simp
end Go.L
