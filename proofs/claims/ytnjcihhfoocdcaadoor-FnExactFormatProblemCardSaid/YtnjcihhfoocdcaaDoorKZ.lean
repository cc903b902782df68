/- The plain law: what the functions compute, and that it answers as the statement says. -/
import Derived.Test.YtnjcihhfoocdcaaDoorG10
import Derived.Test.YtnjcihhfoocdcaaDoorD1
import Derived.Lib.ItoaMem
import Derived.Lib.SplitLaws
namespace Go.L
open Go Go.E
set_option linter.unusedVariables false
def ML : Nat := 9223372036854775807
section
variable {α β σ τ : Type}
theorem idx_nat (xs : List α) (i : Nat) : idx xs (i : Int) = xs[i]? := by
  unfold idx; rw [if_pos (Int.natCast_nonneg i), Int.toNat_natCast]
theorem mkN_le {n : Nat} (x : α) (h : n ≤ 4294967296) : mkN (n : Int) x = some (List.replicate n x) := by
  unfold mkN
  rw [if_pos (by omega), Int.toNat_natCast]
theorem range_to {b : Nat → α → σ → Option (Lo σ τ)} (F : Nat → σ) (xs0 : List α) (h : ∀ i x, xs0[i]? = some x → b i x (F i) = some (.cont (F (i + 1)))) :
    rangeL b xs0 0 (F 0) = some (.nx (F xs0.length)) := by
  have key : ∀ (xs : List α) (i : Nat), xs0.drop i = xs → i ≤ xs0.length → rangeL b xs i (F i) = some (.nx (F xs0.length)) := by
    intro xs
    induction xs with
    | nil =>
      intro i hd hi
      rw [List.drop_eq_nil_iff] at hd
      obtain rfl : i = xs0.length := by omega
      rfl
    | cons x xs ih =>
      intro i hd hi
      have hx := drop_idx hd
      rw [idx_nat] at hx
      show (b i x (F i)).bind _ = _
      rw [h i x hx]
      exact ih (i + 1) (drop_next hd) (List.getElem?_eq_some_iff.1 hx).1
  exact key xs0 0 rfl (Nat.zero_le _)
theorem range_inv {b : Nat → α → σ → Option (Lo σ τ)} (xs0 : List α) (I : Nat → σ → Prop) (Q : Jn σ τ → Prop) (h0 : ∀ s, I xs0.length s → Q (.nx s))
    (h : ∀ i x s, xs0[i]? = some x → I i s → ∃ o, b i x s = some o ∧ (match o with | .cont s' => I (i + 1) s' | .brk s' => Q (.nx s') | .out t => Q (.out t))) (s : σ) (hs : I 0 s) :
    ∃ j, rangeL b xs0 0 s = some j ∧ Q j := by
  have key : ∀ (xs : List α) (i : Nat) (s : σ), xs0.drop i = xs → i ≤ xs0.length → I i s → ∃ j, rangeL b xs i s = some j ∧ Q j := by
    intro xs
    induction xs with
    | nil =>
      intro i s hd hi hI
      rw [List.drop_eq_nil_iff] at hd
      obtain rfl : i = xs0.length := by omega
      exact ⟨_, rfl, h0 s hI⟩
    | cons x xs ih =>
      intro i s hd hi hI
      have hx := drop_idx hd
      rw [idx_nat] at hx
      obtain ⟨o, hb, ho⟩ := h i x s hx hI
      have hl := (List.getElem?_eq_some_iff.1 hx).1
      cases o with
      | cont s' =>
        obtain ⟨j, hj, hQ⟩ := ih (i + 1) s' (drop_next hd) hl ho
        exact ⟨j, by show (b i x s).bind _ = _; rw [hb]; exact hj, hQ⟩
      | brk s' => exact ⟨_, by show (b i x s).bind _ = _; rw [hb]; rfl, ho⟩
      | out t => exact ⟨_, by show (b i x s).bind _ = _; rw [hb]; rfl, ho⟩
  exact key xs0 0 s rfl (Nat.zero_le _) hs
theorem while_inv {b : σ → Option (Lo σ τ)} (I : Nat → σ → Prop) (Q : Jn σ τ → Prop)
    (h : ∀ n s, I n s → ∃ o, b s = some o ∧ (match o with | .cont s' => ∃ m, m < n ∧ I m s' | .brk s' => Q (.nx s') | .out t => Q (.out t))) :
    ∀ k n s, I n s → n < k → ∃ j, whileL b k s = some j ∧ Q j := by
  intro k
  induction k with
  | zero => intro n s _ h; omega
  | succ k ih =>
    intro n s hI hk
    obtain ⟨o, hb, ho⟩ := h n s hI
    cases o with
    | cont s' =>
      obtain ⟨m, hm, hI'⟩ := ho
      obtain ⟨j, hj, hQ⟩ := ih m s' hI' (by omega)
      exact ⟨j, by show (b s).bind _ = _; rw [hb]; exact hj, hQ⟩
    | brk s' => exact ⟨_, by show (b s).bind _ = _; rw [hb]; rfl, ho⟩
    | out t => exact ⟨_, by show (b s).bind _ = _; rw [hb]; rfl, ho⟩
def allFrom (q : Nat → α → Bool) : List α → Nat → Bool
  | [], _ => true
  | x :: xs, i => q i x && allFrom q xs (i + 1)
theorem allFrom_const (q : α → Bool) : ∀ (xs : List α) (i : Nat), allFrom (fun _ x => q x) xs i = xs.all q
  | [], _ => rfl
  | x :: xs, i => by rw [allFrom, allFrom_const q xs, List.all_cons]
theorem range_allI (q : Nat → α → Bool) (t : τ) {b : Nat → α → Unit → Option (Lo Unit τ)} (xs0 : List α)
    (hb : ∀ (i : Nat) (x : α), xs0[i]? = some x → b i x () = some (if q i x then .cont () else .out t)) : rangeL b xs0 0 () = some (if allFrom q xs0 0 then .nx () else .out t) := by
  have key : ∀ (xs : List α) (i : Nat), xs0.drop i = xs → rangeL b xs i () = some (if allFrom q xs i then .nx () else .out t) := by
    intro xs
    induction xs with
    | nil => intro i _; rfl
    | cons x xs ih =>
      intro i h
      have hx := drop_idx h
      rw [idx_nat] at hx
      show (b i x ()).bind _ = _
      rw [hb i x hx]
      cases hq : q i x with
      | true => show rangeL b xs (i + 1) () = _; rw [ih (i + 1) (drop_next h)]; simp [allFrom, hq]
      | false => simp [allFrom, hq]
  exact key xs0 0 rfl
theorem range_all (q : α → Bool) (t : τ) {b : Nat → α → Unit → Option (Lo Unit τ)} (xs0 : List α)
    (hb : ∀ (i : Nat) (x : α), xs0[i]? = some x → b i x () = some (if q x then .cont () else .out t)) : rangeL b xs0 0 () = some (if xs0.all q then .nx () else .out t) := by
  rw [range_allI (fun _ => q) t xs0 hb, allFrom_const]
theorem any_not_all (q : α → Bool) (xs : List α) : xs.any (fun x => !q x) = !xs.all q := by
  induction xs with
  | nil => rfl
  | cons x xs ih => rw [List.any_cons, List.all_cons, ih]; cases q x <;> cases xs.all q <;> rfl
theorem range_index {q : α → Bool} {b : Nat → α → Unit → Option (Lo Unit Int)} (xs0 : List α) (hb : ∀ i x, xs0[i]? = some x → b i x () = some (if q x then .out (i : Int) else .cont ())) :
    ∃ j, rangeL b xs0 0 () = some j ∧ (match j with | .nx _ => xs0.any q = false | .out t => 0 ≤ t ∧ xs0.any q = true) := by
  refine range_inv xs0 (fun i _ => (xs0.take i).any q = false) _ ?_ ?_ () (by simp)
  · intro s h; simpa using h
  · intro i x s hx hI
    have hi := (List.getElem?_eq_some_iff.1 hx).1
    refine ⟨_, hb i x hx, ?_⟩
    cases hq : q x with
    | true => exact ⟨by omega, List.any_eq_true.2 ⟨x, List.mem_of_getElem? hx, hq⟩⟩
    | false =>
      show (xs0.take (i + 1)).any q = false
      rw [List.take_add_one, hx, List.any_append, hI]
      simp [hq]
end
end Go.L
namespace Go.L
open Go Go.E
set_option linter.unusedSimpArgs false
set_option linter.unusedVariables false
theorem bs_size (l : List UInt8) : (bs l).size = l.length := by show l.toArray.size = _; simp
theorem cat_bs {a b : List UInt8} (h : a.length + b.length ≤ 9223372036854775807) : cat (bs a) (bs b) = some (bs (a ++ b)) := by
  unfold cat
  rw [if_pos (by rw [bs_size, bs_size]; exact h)]
  simp only [bs]
  exact congrArg some (ByteArray.ext (by simp))
theorem catB_bs {a b : List UInt8} (h : a.length + b.length ≤ 140737488355328) : catB (bs a) (bs b) = some (bs (a ++ b)) := by
  unfold catB
  rw [if_pos (by rw [bs_size, bs_size]; exact h)]
  simp only [bs]
  exact congrArg some (ByteArray.ext (by simp))
theorem eq_bs (a b : List UInt8) : (ByteArray.toList (bs a) == ByteArray.toList (bs b)) = (a == b) := by
  simp only [bs, ByteArray.toList_mk]
def dec (n : Nat) : List UInt8 := Go.Lib.decDigits n
theorem dec_small {n : Nat} (h : n < 10) : dec n = [UInt8.ofNat (48 + n)] := Go.Lib.decDigits_one h
theorem dec_big {n : Nat} (h : ¬ n < 10) : dec n = dec (n / 10) ++ [UInt8.ofNat (48 + n % 10)] := by
  unfold dec
  rw [Go.Lib.decDigits, dif_neg h]
theorem dec_len : ∀ (k n : Nat), n < 10 ^ (k + 1) → (dec n).length ≤ k + 1
  | 0, n, h => by rw [dec_small (by simpa using h)]; simp
  | k + 1, n, h => by
    by_cases hn : n < 10
    · rw [dec_small hn]; simp
    · rw [dec_big hn, List.length_append]
      have := dec_len k (n / 10) (by rw [Nat.div_lt_iff_lt_mul (by omega)]; rw [Nat.pow_succ] at h; omega)
      simp; omega
theorem dec_pos (n : Nat) : 1 ≤ (dec n).length := by
  by_cases hn : n < 10
  · rw [dec_small hn]; simp
  · rw [dec_big hn]; simp
theorem dec_len20 {n : Nat} (h : n ≤ 9223372036854775807) : (dec n).length ≤ 19 := dec_len 18 n (by omega)
theorem wrap_u8 {x : Int} (h0 : 0 ≤ x) (h1 : x < 256) : IntKind.u8.wrap x = x := by
  unfold IntKind.wrap IntKind.bits IntKind.signed
  simp
  omega
theorem u8w_nat {m : Nat} (h : m < 256) : u8w (m : Int) = UInt8.ofNat m := by
  unfold u8w
  rw [wrap_u8 (by omega) (by omega)]
  rfl
theorem itoa_nat {n : Nat} (h : n ≤ 9223372036854775807) : strconv_Itoa (n : Int) = some (bs (dec n)) := by
  unfold strconv_Itoa
  rw [if_pos ⟨by omega, by omega⟩, Go.Lib.itoa_nonneg]
  rfl
theorem itoa_of {n : Int} (h0 : 0 ≤ n) (h : n ≤ 9223372036854775807) : strconv_Itoa n = some (bs (dec n.toNat)) := by
  have := itoa_nat (n := n.toNat) (by omega)
  rwa [show ((n.toNat : Nat) : Int) = n by omega] at this
theorem s_dec_loop (n : Nat) (hn : n ≤ 9223372036854775807) (fu : Nat) (hf : 30 ≤ fu) : ∃ j, whileL s_l17Dec_b1 fu ((n : Int), (⟨#[]⟩ : ByteArray)) = some j ∧ ∃ (m : Nat) (o : List UInt8), j = .nx ((m : Int), bs o) ∧ m < 10 ∧ dec n = dec m ++ o := by
  refine while_inv (fun k s => ∃ (m : Nat) (o : List UInt8), s = ((m : Int), bs o) ∧ m ≤ n ∧ dec n = dec m ++ o ∧ k = (dec m).length) _ ?_ fu (dec n).length _ ⟨n, [], rfl, Nat.le_refl _, by simp, rfl⟩ (by have := dec_len20 hn; omega)
  rintro k s ⟨m, o, rfl, hm, hd, rfl⟩
  unfold s_l17Dec_b1
  by_cases h : m < 10
  · simp only []
    rw [if_neg (by simp only [decide_eq_true_eq]; omega)]
    exact ⟨_, rfl, m, o, rfl, h, hd⟩
  · simp only []
    have hl := dec_len20 hn
    rw [hd, List.length_append] at hl
    have hm1 := dec_pos m
    rw [if_pos (by simp only [decide_eq_true_eq]; omega), show Int.tmod (m : Int) 10 = ((m % 10 : Nat) : Int) from by rw [Int.tmod_eq_emod_of_nonneg (by omega)]; omega,
      show (i64 (48 + ((m % 10 : Nat) : Int))) = ((48 + m % 10 : Nat) : Int) from by rw [i64_id (by omega) (by omega)]; omega, u8w_nat (by omega), cat_bs (by simp; omega), Option.bind_some]
    refine ⟨_, rfl, _, ?_, m / 10, UInt8.ofNat (48 + m % 10) :: o, ?_, by omega, ?_, rfl⟩
    · rw [dec_big h]; simp
    · rw [show Int.tdiv (m : Int) 10 = ((m / 10 : Nat) : Int) from by rw [Int.tdiv_eq_ediv_of_nonneg (by omega)]; omega, i64_id (by omega) (by omega)]
      rfl
    · rw [hd, dec_big h]; simp
theorem s_dec {n : Nat} (hn : n ≤ 9223372036854775807) {fu : Nat} (hf : 30 ≤ fu) : s_l17Dec fu (n : Int) = some (bs (dec n)) := by
  obtain ⟨k, rfl⟩ : ∃ k, fu = k + 1 := ⟨fu - 1, by omega⟩
  unfold s_l17Dec
  show s_l17Dec_F (k + 1) (s_l17Dec_R (k + 1) k) (n : Int) = _
  unfold s_l17Dec_F
  rw [if_neg (by simp only [decide_eq_true_eq]; omega), if_neg (by simp only [decide_eq_true_eq]; omega)]
  obtain ⟨j, hj, m, o, rfl, hm, hd⟩ := s_dec_loop n hn (k + 1) hf
  rw [hj, Option.bind_some]
  have hl := dec_len20 hn
  rw [hd, List.length_append] at hl
  have hm1 := dec_pos m
  show Option.bind (cat (bs [u8w (i64 (48 + (m : Int)))]) (bs o)) _ = _
  rw [show (i64 (48 + (m : Int))) = ((48 + m : Nat) : Int) from by rw [i64_id (by omega) (by omega)]; omega, u8w_nat (by omega), cat_bs (by simp; omega), Option.bind_some, hd, dec_small hm]
theorem s_dec_of {n : Int} (h0 : 0 ≤ n) (h : n ≤ 9223372036854775807) {fu : Nat} (hf : 30 ≤ fu) : s_l17Dec fu n = some (bs (dec n.toNat)) := by
  have := s_dec (n := n.toNat) (by omega) hf
  rwa [show ((n.toNat : Nat) : Int) = n by omega] at this
end Go.L
namespace Go.L
open Go Go.E
set_option linter.unusedSimpArgs false
set_option linter.unusedVariables false
end Go.L
namespace Go.L
open Go Go.E
set_option linter.unusedVariables false
set_option linter.unusedSimpArgs false
set_option maxRecDepth 100000
def absI (n : Int) : Int := max n (-n)
def okT (t : Term) : Bool := (t.lit != 0 && decide (-12 ≤ t.lit) && decide (t.lit ≤ 12)) && (decide (1 ≤ t.coef) && decide (t.coef ≤ 1000))
def okTerms : Int → List Term → Bool
  | _, [] => true
  | b, t :: ts => (okT t && decide (b < absI t.lit)) && okTerms (absI t.lit) ts
def okB (b : Int) : Bool := decide (0 ≤ b) && decide (b ≤ 20000)
def okCon (c : Con) : Bool := okTerms 0 c.terms && okB c.bound
theorem i_valid_loop : ∀ (ts : List Term) (i : Nat) (b : Int), ∃ b', rangeL i_ConstraintValid_b1 ts i b = some (if okTerms b ts then .nx b' else .out false)
  | [], i, b => ⟨b, rfl⟩
  | t :: ts, i, b => by
    obtain ⟨b', h⟩ := i_valid_loop ts (i + 1) (absI t.lit)
    refine ⟨b', ?_⟩
    show (i_ConstraintValid_b1 i t b).bind _ = _
    have e : i_ConstraintValid_b1 i t b = some (if okT t && decide (b < absI t.lit) then .cont (absI t.lit) else .out false) := by
      unfold i_ConstraintValid_b1 i_isLiteral i_within i_variableOf okT absI
      by_cases h0 : t.lit = 0
      · simp [h0]
      by_cases h1 : -12 ≤ t.lit ∧ t.lit ≤ 12
      · rw [i64_id (n := -t.lit) (by omega) (by omega)]
        by_cases h2 : 1 ≤ t.coef ∧ t.coef ≤ 1000
        · by_cases h3 : b < max t.lit (-t.lit)
          · have : ¬ max t.lit (-t.lit) ≤ b := by omega
            simp [h0, h1.1, h1.2, h2.1, h2.2, h3, this]
          · have : max t.lit (-t.lit) ≤ b := by omega
            simp [h0, h1.1, h1.2, h2.1, h2.2, h3, this]
        · have h2' : (decide (1 ≤ t.coef) && decide (t.coef ≤ 1000)) = false := by simp; omega
          simp only [h2']
          simp [h0, h1.1, h1.2]
      · have h1' : (decide (-12 ≤ t.lit) && decide (t.lit ≤ 12)) = false := by simp; omega
        simp only [Bool.and_assoc, h1']
        simp [h0]
    rw [e, okTerms]
    cases okT t && decide (b < absI t.lit) with
    | true => simpa using h
    | false => rfl
theorem i_valid (c : Con) : i_ConstraintValid c = some (okCon c) := by
  unfold i_ConstraintValid okCon
  obtain ⟨b', h⟩ := i_valid_loop c.terms 0 0
  rw [h]
  cases okTerms 0 c.terms <;> simp [i_within, okB]
theorem s_abs (n : Int) (h1 : -9223372036854775807 ≤ n) (h2 : n ≤ 9223372036854775807) : s_l1Abs n = some (absI n) := by
  unfold s_l1Abs absI
  by_cases h : n < 0
  · rw [if_pos (by simpa using h), i64_id (by omega) (by omega)]; congr 1; omega
  · rw [if_neg (by simpa using h)]; congr 1; omega
theorem okT_lit {t : Term} (h : okT t = true) : t.lit ≠ 0 ∧ -12 ≤ t.lit ∧ t.lit ≤ 12 ∧ 1 ≤ t.coef ∧ t.coef ≤ 1000 := by
  unfold okT at h
  simp at h
  exact ⟨h.1.1.1, h.1.1.2, h.1.2, h.2.1, h.2.2⟩
theorem s_valid_loop (c : Con) (hl : c.terms.length ≤ ML) : ∀ (ts : List Term) (i : Nat) (b : Int), c.terms.drop i = ts → (i = 0 ∧ b = 0 ∨ ∃ t, 0 < i ∧ c.terms[i - 1]? = some t ∧ okT t = true ∧ b = absI t.lit) →
    rangeL (s_ConstraintValid_b1 c) ts i () = some (if okTerms b ts then .nx () else .out false)
  | [], i, b, _, _ => rfl
  | t :: ts, i, b, hd, hb => by
    show (s_ConstraintValid_b1 c i t ()).bind _ = _
    have e : s_ConstraintValid_b1 c i t () = some (if okT t && decide (b < absI t.lit) then .cont () else .out false) := by
      unfold s_ConstraintValid_b1 s_l1Lit
      by_cases hk : okT t = true
      · obtain ⟨h0, h1, h2, h3, h4⟩ := okT_lit hk
        have e1 : ((!((t.lit != 0) && decide (t.lit ≥ -12) && decide (t.lit ≤ 12)) || decide (t.coef < 1)) || decide (t.coef > 1000)) = false := by simp; omega
        simp only [Option.bind_some, e1, hk]
        have hpos : 0 < absI t.lit := by unfold absI; omega
        rcases hb with ⟨rfl, rfl⟩ | ⟨p, hi, hp, hpk, rfl⟩
        · simp [hpos]
        · obtain ⟨q0, q1, q2, _, _⟩ := okT_lit hpk
          have hil := (List.getElem?_eq_some_iff.1 hp).1
          unfold ML at hl
          have hi2 : decide ((i : Int) > 0) = true := by simpa using hi
          have e2 : idx c.terms (i64 ((i : Int) - 1)) = some p := by
            rw [i64_id (by omega) (by omega), show (i : Int) - 1 = ((i - 1 : Nat) : Int) by omega, idx_nat, hp]
          simp only [hi2, e2, Option.bind_some, s_abs p.lit (by omega) (by omega), s_abs t.lit (by omega) (by omega)]
          by_cases h5 : absI p.lit < absI t.lit
          · have : ¬ absI p.lit ≥ absI t.lit := by omega
            simp [h5, this]
          · have : absI p.lit ≥ absI t.lit := by omega
            simp [h5, this]
      · have hk' : okT t = false := by simpa using hk
        have e1 : ((!((t.lit != 0) && decide (t.lit ≥ -12) && decide (t.lit ≤ 12)) || decide (t.coef < 1)) || decide (t.coef > 1000)) = true := by
          cases hx : ((!((t.lit != 0) && decide (t.lit ≥ -12) && decide (t.lit ≤ 12)) || decide (t.coef < 1)) || decide (t.coef > 1000)) with
          | true => rfl
          | false =>
            exfalso
            apply hk
            unfold okT
            simp at hx ⊢
            omega
        simp only [Option.bind_some, e1, hk']
        rfl
    rw [e, okTerms]
    cases hok : okT t && decide (b < absI t.lit) with
    | true =>
      rw [Bool.and_eq_true] at hok
      simpa using s_valid_loop c hl ts (i + 1) (absI t.lit) (drop_next hd) (.inr ⟨t, by omega, by have := drop_idx hd; rw [idx_nat] at this; simpa using this, hok.1, rfl⟩)
    | false => rfl
theorem s_valid (c : Con) (hl : c.terms.length ≤ ML) : s_ConstraintValid c = some (okCon c) := by
  unfold s_ConstraintValid okCon
  rw [s_valid_loop c hl c.terms 0 0 rfl (.inl ⟨rfl, rfl⟩)]
  cases okTerms 0 c.terms <;> simp [okB]
end Go.L
namespace Go.L
open Go Go.E
set_option linter.unusedVariables false
set_option linter.unusedSimpArgs false
set_option maxRecDepth 100000
theorem okTerms_len : ∀ (ts : List Term) (b : Int), 0 ≤ b → okTerms b ts = true → (ts.length : Int) + b ≤ 12 ∨ ts = []
  | [], _, _, _ => .inr rfl
  | t :: ts, b, hb, h => by
    rw [okTerms, Bool.and_eq_true, Bool.and_eq_true] at h
    obtain ⟨⟨h1, h2⟩, h3⟩ := h
    obtain ⟨h0, l1, l2, _, _⟩ := okT_lit h1
    have h2 := of_decide_eq_true h2
    have ha : absI t.lit ≤ 12 := by unfold absI; omega
    left
    rcases okTerms_len ts (absI t.lit) (by omega) h3 with h | h
    · simp; omega
    · subst h; simp; omega
theorem okTerms_all : ∀ (ts : List Term) (b : Int), okTerms b ts = true → ∀ t ∈ ts, okT t = true
  | [], _, _, t, ht => by cases ht
  | t :: ts, b, h, u, hu => by
    rw [okTerms, Bool.and_eq_true, Bool.and_eq_true] at h
    rcases List.mem_cons.1 hu with rfl | hu
    · exact h.1.1
    · exact okTerms_all ts _ h.2 u hu
theorem okCon_parts {c : Con} (h : okCon c = true) : okTerms 0 c.terms = true ∧ c.terms.length ≤ 12 ∧ (∀ t ∈ c.terms, okT t = true) ∧ 0 ≤ c.bound ∧ c.bound ≤ 20000 := by
  unfold okCon okB at h
  simp at h
  refine ⟨h.1, ?_, okTerms_all _ _ h.1, h.2.1, h.2.2⟩
  rcases okTerms_len _ _ (Int.le_refl 0) h.1 with h | h
  · omega
  · rw [h]; simp
def okProb (list : List Con) : Bool := list.all okCon && decide ((list.length : Int) ≤ 400)
theorem s_problem (list : List Con) (hl : ∀ c ∈ list, c.terms.length ≤ ML) : s_ProblemValid list = some (okProb list) := by
  unfold s_ProblemValid okProb
  rw [range_all okCon false list]
  · cases list.all okCon <;> simp
  · intro i c hc
    show (s_ConstraintValid c).bind _ = _
    rw [s_valid c (hl c (List.mem_of_getElem? hc)), Option.bind_some]
    cases okCon c <;> rfl
theorem i_contains (s : List Con) {p : Con → Option Bool} {q : Con → Bool} (hp : ∀ c ∈ s, p c = some (q c)) : slices_ContainsFunc_implConstraint s p = some (s.any q) := by
  unfold slices_ContainsFunc_implConstraint slices_IndexFunc_implConstraint
  obtain ⟨j, h1, h2⟩ := range_index (q := q) (b := slices_IndexFunc_implConstraint_b1 p) s (fun i x hx => by show (p x).bind _ = _; rw [hp x (List.mem_of_getElem? hx)]; show (if _ then _ else _) = _; cases q x <;> rfl)
  rw [h1]
  cases j with
  | nx u => simp only at h2; rw [h2]; rfl
  | out t => simp only at h2; rw [h2.2]; simp [h2.1]
theorem i_problem (list : List Con) : i_ProblemValid list = some (okProb list) := by
  unfold i_ProblemValid i_allValid okProb
  rw [i_contains list (q := fun c => !okCon c) fun c _ => by unfold i_allValid_1; rw [i_valid]; rfl]
  have e : list.any (fun c => !okCon c) = !list.all okCon := any_not_all _ _
  rw [e]
  cases h : decide ((list.length : Int) ≤ 400) <;> simp [h]
end Go.L
namespace Go.L
open Go Go.E
set_option linter.unusedVariables false
set_option linter.unusedSimpArgs false
set_option maxRecDepth 100000
section
variable {α β σ τ : Type}
end
end Go.L
namespace Go.L
open Go Go.E
set_option linter.unusedSimpArgs false
set_option linter.unusedVariables false
set_option maxRecDepth 100000
def litT (l : Int) : List UInt8 := if l < 0 then 126 :: 120 :: dec (-l).toNat else 120 :: dec l.toNat
def okL (l : Int) : Prop := l ≠ 0 ∧ -12 ≤ l ∧ l ≤ 12
theorem litT_len {l : Int} (h : okL l) : (litT l).length ≤ 4 := by
  unfold okL at h
  unfold litT
  split
  · have := dec_len 1 (-l).toNat (by omega); simp only [List.length_cons]; omega
  · have := dec_len 1 l.toNat (by omega); simp only [List.length_cons]; omega
theorem i_litText {l : Int} (h : -1000000 ≤ l ∧ l ≤ 1000000) : i_literalText l = some (bs (litT l)) := by
  unfold i_literalText litT
  split
  · rename_i hl
    have hl := of_decide_eq_true hl
    have := dec_len 6 (-l).toNat (by omega)
    rw [i64_id (by omega) (by omega), itoa_of (by omega) (by omega), Option.bind_some, show (⟨#[126, 120]⟩ : ByteArray) = bs [126, 120] from rfl, cat_bs (by simp only [List.length_cons, List.length_nil]; omega), if_pos hl]
    rfl
  · rename_i hl
    have hl : ¬ l < 0 := by simpa using hl
    have := dec_len 6 l.toNat (by omega)
    rw [itoa_of (by omega) (by omega), Option.bind_some, show (⟨#[120]⟩ : ByteArray) = bs [120] from rfl, cat_bs (by simp only [List.length_cons, List.length_nil]; omega), if_neg hl]
    rfl
theorem s_litText {l : Int} (h : -1000000 ≤ l ∧ l ≤ 1000000) {fu : Nat} (hf : 30 ≤ fu) : s_l1Name fu l = some (bs (litT l)) := by
  unfold s_l1Name litT
  split
  · rename_i hl
    have hl := of_decide_eq_true hl
    have := dec_len 6 (-l).toNat (by omega)
    rw [i64_id (by omega) (by omega), s_dec_of (by omega) (by omega) hf, Option.bind_some, show (⟨#[126, 120]⟩ : ByteArray) = bs [126, 120] from rfl, cat_bs (by simp only [List.length_cons, List.length_nil]; omega), if_pos hl]
    rfl
  · rename_i hl
    have hl : ¬ l < 0 := by simpa using hl
    have := dec_len 6 l.toNat (by omega)
    rw [s_dec_of (by omega) (by omega) hf, Option.bind_some, show (⟨#[120]⟩ : ByteArray) = bs [120] from rfl, cat_bs (by simp only [List.length_cons, List.length_nil]; omega), if_neg hl]
    rfl
def termT (t : Term) : List UInt8 := dec t.coef.toNat ++ 32 :: litT t.lit ++ [32]
def conT (c : Con) : List UInt8 := c.terms.flatMap termT ++ [62, 61, 32] ++ dec c.bound.toNat
theorem okT_L {t : Term} (h : okT t = true) : okL t.lit := ⟨(okT_lit h).1, (okT_lit h).2.1, (okT_lit h).2.2.1⟩
theorem termT_len {t : Term} (h : okT t = true) : (termT t).length ≤ 10 := by
  have h1 := okT_lit h
  have h2 := litT_len (okT_L h)
  have h3 := dec_len 3 t.coef.toNat (by omega)
  unfold termT
  simp only [List.length_append, List.length_cons, List.length_nil]
  omega
theorem terms_len : ∀ {ts : List Term}, (∀ t ∈ ts, okT t = true) → (ts.flatMap termT).length ≤ 10 * ts.length
  | [], _ => by simp
  | t :: ts, h => by
    have h1 := termT_len (h t (by simp))
    have h2 := terms_len (ts := ts) fun x hx => h x (by simp [hx])
    rw [List.flatMap_cons, List.length_append, List.length_cons]
    omega
theorem conT_len {c : Con} (h : okCon c = true) : (conT c).length ≤ 128 := by
  obtain ⟨_, h2, h3, h4, h5⟩ := okCon_parts h
  have h6 := terms_len h3
  have h7 := dec_len 4 c.bound.toNat (by omega)
  unfold conT
  simp only [List.length_append, List.length_cons, List.length_nil]
  omega
theorem flat_take {α β : Type} (f : α → List β) {xs : List α} {i : Nat} {x : α} (h : xs[i]? = some x) : (xs.take (i + 1)).flatMap f = (xs.take i).flatMap f ++ f x := by
  rw [List.take_add_one, h, Option.toList_some, List.flatMap_append]
  simp
theorem i_text {c : Con} (h : okCon c = true) : i_Constraint_text c = some (bs (conT c)) := by
  obtain ⟨_, h2, h3, h4, h5⟩ := okCon_parts h
  unfold i_Constraint_text
  have hl := range_to (b := i_Constraint_text_b1) (fun i => bs ((c.terms.take i).flatMap termT)) c.terms fun i t ht => by
    have hok := h3 t (List.mem_of_getElem? ht)
    have h1 := okT_lit hok
    have hL := okT_L hok
    have e1 := litT_len hL
    have e2 := dec_len 3 t.coef.toNat (by omega)
    have e3 := terms_len (ts := c.terms.take i) fun x hx => h3 x (List.mem_of_mem_take hx)
    have e4 : (c.terms.take i).length ≤ 12 := by rw [List.length_take]; omega
    unfold i_Constraint_text_b1
    rw [itoa_of (by omega) (by omega), Option.bind_some, show (⟨#[32]⟩ : ByteArray) = bs [32] from rfl, cat_bs (by simp only [List.length_cons, List.length_nil]; omega), Option.bind_some, i_litText (by omega), Option.bind_some,
      cat_bs (by simp only [List.length_append, List.length_cons, List.length_nil]; omega), Option.bind_some, cat_bs (by simp only [List.length_append, List.length_cons, List.length_nil]; omega), Option.bind_some,
      cat_bs (by simp only [List.length_append, List.length_cons, List.length_nil]; omega), Option.bind_some, flat_take termT ht]
    unfold termT
    simp only [List.append_assoc, List.cons_append, List.nil_append]
  have e3 := terms_len h3
  have e5 := dec_len 4 c.bound.toNat (by omega)
  rw [show (⟨#[]⟩ : ByteArray) = bs ((c.terms.take 0).flatMap termT) from rfl, hl, Option.bind_some]
  simp only [List.take_length]
  rw [show (⟨#[62, 61, 32]⟩ : ByteArray) = bs [62, 61, 32] from rfl, cat_bs (by simp only [List.length_cons, List.length_nil]; omega), Option.bind_some, itoa_of h4 (by omega), Option.bind_some,
    cat_bs (by simp only [List.length_append, List.length_cons, List.length_nil]; omega), Option.bind_some]
  rfl
theorem s_text {c : Con} (h : okCon c = true) {fu : Nat} (hf : 30 ≤ fu) : s_l1Text fu c = some (bs (conT c)) := by
  obtain ⟨_, h2, h3, h4, h5⟩ := okCon_parts h
  unfold s_l1Text
  have hl := range_to (b := s_l1Text_b1 fu) (fun i => bs ((c.terms.take i).flatMap termT)) c.terms fun i t ht => by
    have hok := h3 t (List.mem_of_getElem? ht)
    have h1 := okT_lit hok
    have hL := okT_L hok
    have e1 := litT_len hL
    have e2 := dec_len 3 t.coef.toNat (by omega)
    have e3 := terms_len (ts := c.terms.take i) fun x hx => h3 x (List.mem_of_mem_take hx)
    have e4 : (c.terms.take i).length ≤ 12 := by rw [List.length_take]; omega
    unfold s_l1Text_b1
    rw [s_dec_of (by omega) (by omega) hf, Option.bind_some, show (⟨#[32]⟩ : ByteArray) = bs [32] from rfl, cat_bs (by omega), Option.bind_some, cat_bs (by simp only [List.length_append, List.length_cons, List.length_nil]; omega), Option.bind_some, s_litText (by omega) hf, Option.bind_some,
      cat_bs (by simp only [List.length_append, List.length_cons, List.length_nil]; omega), Option.bind_some, cat_bs (by simp only [List.length_append, List.length_cons, List.length_nil]; omega), Option.bind_some, flat_take termT ht]
    unfold termT
    simp only [List.append_assoc, List.cons_append, List.nil_append]
  have e3 := terms_len h3
  have e5 := dec_len 4 c.bound.toNat (by omega)
  rw [show (⟨#[]⟩ : ByteArray) = bs ((c.terms.take 0).flatMap termT) from rfl, hl, Option.bind_some]
  simp only [List.take_length]
  rw [show (⟨#[62, 61, 32]⟩ : ByteArray) = bs [62, 61, 32] from rfl, cat_bs (by simp only [List.length_cons, List.length_nil]; omega), Option.bind_some, s_dec_of h4 (by omega) hf, Option.bind_some,
    cat_bs (by simp only [List.length_append, List.length_cons, List.length_nil]; omega), Option.bind_some]
  rfl
end Go.L
namespace Go.L
open Go Go.E
set_option linter.unusedSimpArgs false
set_option linter.unusedVariables false
set_option maxRecDepth 100000
end Go.L
namespace Go.L
open Go Go.E
set_option linter.unusedVariables false
set_option linter.unusedSimpArgs false
set_option maxRecDepth 100000
end Go.L
namespace Go.L
open Go Go.E
set_option linter.unusedVariables false
set_option linter.unusedSimpArgs false
set_option maxRecDepth 100000
end Go.L
namespace Go.L
open Go Go.E
set_option linter.unusedVariables false
def SzOk (r left : Int) (good : Prop) : Prop := r < 0 ∨ (0 ≤ r ∧ r ≤ left ∧ good)
theorem sz_len {α : Type} {a : List α} {left : Int} {one : Option Int} (e : one = if decide ((i64 (left - (a.length : Int))) < 0) then (some (-1)) else (some (i64 (left - (a.length : Int))))) (h0 : 0 ≤ left) (h1 : left ≤ 1048576) (ha : a.length ≤ ML) :
    ∃ r, one = some r ∧ SzOk r left (a.length ≤ 1048576) := by
  rw [e]
  unfold ML at ha
  rw [i64_id (by omega) (by omega)]
  by_cases h : left - (a.length : Int) < 0
  · exact ⟨-1, by rw [if_pos (by simpa using h)], .inl (by omega)⟩
  · exact ⟨left - a.length, by rw [if_neg (by simpa using h)], .inr ⟨by omega, by omega, by omega⟩⟩
theorem sz_list {α : Type} {one : α → Int → Option Int} {good : α → Prop} {a : List α} {left : Int} {b : Nat → α → Int → Option (Lo Int Int)} {all : Option Int}
    (e : all = if decide ((i64 (left - (a.length : Int))) < 0) then (some (-1)) else (((rangeL b a 0 (i64 (left - (a.length : Int)))) : Option (Jn Int Int)).bind fun j => match j with | .nx l => (some l) | .out t => some t))
    (hb : ∀ i x l, b i x l = (one x l).bind fun r => if decide (r < 0) then some (.out (-1)) else some (.cont r)) (h0 : 0 ≤ left) (h1 : left ≤ 1048576) (ha : a.length ≤ ML)
    (hone : ∀ x ∈ a, ∀ l, 0 ≤ l → l ≤ 1048576 → ∃ r, one x l = some r ∧ SzOk r l (good x)) :
    ∃ r, all = some r ∧ SzOk r left (a.length ≤ 1048576 ∧ ∀ x ∈ a, good x) := by
  rw [e]
  unfold ML at ha
  rw [i64_id (by omega) (by omega)]
  by_cases h : left - (a.length : Int) < 0
  · exact ⟨-1, by rw [if_pos (by simpa using h)], .inl (by omega)⟩
  · rw [if_neg (by simpa using h)]
    obtain ⟨j, hj, hQ⟩ := range_inv (b := b) a (fun i l => 0 ≤ l ∧ l ≤ left - (a.length : Int) ∧ ∀ x ∈ a.take i, good x)
      (fun j => match j with | .nx l => 0 ≤ l ∧ l ≤ left - (a.length : Int) ∧ ∀ x ∈ a, good x | .out t => t = -1) (fun s hs => by simpa using hs)
      (by
        rintro i x l hx ⟨hl0, hl1, hg⟩
        obtain ⟨r, hr, hok⟩ := hone x (List.mem_of_getElem? hx) l hl0 (by omega)
        rw [hb, hr]
        rcases hok with hn | ⟨p0, p1, p2⟩
        · exact ⟨.out (-1), by simp [hn], rfl⟩
        · refine ⟨.cont r, by simp; omega, p0, by omega, ?_⟩
          intro y hy
          rw [List.take_add_one, hx] at hy
          rcases List.mem_append.1 hy with h | h
          · exact hg y h
          · simp at h; rw [h]; exact p2) (left - a.length) ⟨by omega, by omega, by simp⟩
    rw [hj]
    cases j with
    | nx l => exact ⟨l, rfl, .inr ⟨hQ.1, by have := hQ.2.1; omega, by omega, hQ.2.2⟩⟩
    | out t => exact ⟨t, rfl, .inl (by rw [show t = -1 from hQ]; omega)⟩
theorem sz_end {o : Option Int} {left : Int} {p : Prop} (h : ∃ r, o = some r ∧ SzOk r left p) : ∃ r, (o.bind fun x => if decide (x < 0) then some (-1) else some x) = some r ∧ SzOk r left p := by
  obtain ⟨r, rfl, hok⟩ := h
  rcases hok with hn | ⟨p0, p1, p2⟩
  · exact ⟨-1, by simp [hn], .inl (by omega)⟩
  · exact ⟨r, by rw [Option.bind_some, if_neg (by simp; omega)], .inr ⟨p0, p1, p2⟩⟩
theorem sz_law {o : Option Int} {left : Int} {p : Prop} {k : Int → Option Bool} (h : ∃ r, o = some r ∧ SzOk r left p) (h1 : left ≤ 1048576) (hk : ∀ r, 0 ≤ r → r ≤ 1048576 → p → k r = some true) :
    (o.bind fun x => if decide (x < 0) then some true else k x) = some true := by
  obtain ⟨r, rfl, hok⟩ := h
  rcases hok with hn | ⟨p0, p1, p2⟩
  · simp [hn]
  · rw [Option.bind_some, if_neg (by simp; omega)]
    exact hk r p0 (by omega) p2
theorem copy_list {α : Type} {one : α → Option α} {xs : List α} {z : α} {b : Nat → α → List α → Option (Lo (List α) (List α))} {all : Option (List α)} {k : Jn (List α) (List α) → Option (List α)}
    (e : all = (mkN (xs.length : Int) z).bind fun x1 => (rangeL b xs 0 x1).bind k) (hk : ∀ out, k (.nx out) = some out) (hx : xs.length ≤ 1048576)
    (hb : ∀ i x out, b i x out = (one x).bind fun y => (idx out (i : Int)).bind fun _ => some (.cont (out.set (Int.toNat (i : Int)) y))) (hone : ∀ x ∈ xs, one x = some x) : all = some xs := by
  rw [e, mkN_le z (by omega), Option.bind_some]
  have := range_to (b := b) (fun i => xs.take i ++ List.replicate (xs.length - i) z) xs (by
    intro i x hx
    have hi := (List.getElem?_eq_some_iff.1 hx).1
    rw [hb, hone x (List.mem_of_getElem? hx), Option.bind_some, idx_nat, List.getElem?_append_right (by simp; omega)]
    have hl : (xs.take i).length = i := by simp; omega
    rw [hl, Nat.sub_self, List.getElem?_replicate, if_pos (by omega), Option.bind_some, Int.toNat_natCast]
    congr 2
    rw [List.set_append, if_neg (by rw [hl]; omega), hl, Nat.sub_self, show xs.length - i = (xs.length - (i + 1)) + 1 from by omega, List.replicate_succ, List.set_cons_zero]
    rw [List.take_add_one, hx]
    simp)
  simp only [List.take_zero, List.nil_append, Nat.sub_zero] at this
  rw [this]
  simp [hk]
theorem same_list {α : Type} {one : α → α → Option Bool} {xs : List α} {b : Nat → α → Unit → Option (Lo Unit Bool)} {all : Option Bool} {k : Jn Unit Bool → Option Bool}
    (e : all = if ((xs.length : Int) != (xs.length : Int)) then (some false) else ((rangeL b xs 0 ()).bind k)) (hk : k (.nx ()) = some true)
    (hb : ∀ i x, xs[i]? = some x → b i x () = (one x x).bind fun y => if (!y) then some (.out false) else some (.cont ())) (hone : ∀ x ∈ xs, one x x = some true) : all = some true := by
  rw [e, if_neg (by simp)]
  have h := range_all (fun _ => true) false (b := b) xs (fun i x hx => by rw [hb i x hx, hone x (List.mem_of_getElem? hx)]; rfl)
  rw [h]
  simp [hk]
theorem idx_self {α : Type} {xs : List α} {i : Nat} {x : α} (h : xs[i]? = some x) : idx xs (i : Int) = some x := by rw [idx_nat, h]
end Go.L
namespace Go.L
open Go Go.E
set_option linter.unusedVariables false
set_option linter.unusedSimpArgs false
set_option maxRecDepth 100000
def FV : Nat := 2000000
end Go.L
namespace Go.L
open Go Go.E
set_option linter.unusedVariables false
set_option linter.unusedSimpArgs false
set_option maxRecDepth 100000
def smC (c : Con) : Prop := c.terms.length ≤ 1048576
def smCs (xs : List Con) : Prop := xs.length ≤ 1048576 ∧ ∀ c ∈ xs, smC c
theorem szCon (a : Con) (left : Int) (h0 : 0 ≤ left) (h1 : left ≤ 1048576) (ha : a.terms.length ≤ ML) : ∃ r, l_szConstraint a left = some r ∧ SzOk r left (smC a) := by
  unfold l_szConstraint
  exact sz_end (sz_len (a := a.terms) rfl h0 h1 ha)
theorem szCons (a : List Con) (left : Int) (h0 : 0 ≤ left) (h1 : left ≤ 1048576) (ha : a.length ≤ ML) (hel : ∀ c ∈ a, c.terms.length ≤ ML) : ∃ r, l_szConstraintS a left = some r ∧ SzOk r left (smCs a) :=
  sz_list (one := l_szConstraint) rfl (fun _ _ _ => rfl) h0 h1 ha fun x hx l h0 h1 => szCon x l h0 h1 (hel x hx)
theorem toTerms (a : List Term) (ha : a.length ≤ 1048576) : l_toTermS a = some a := copy_list (one := some) (b := l_toTermS_b1) (z := ⟨0, 0⟩) rfl (fun _ => rfl) ha (by intros; rfl) fun _ _ => rfl
theorem toCon (a : Con) (h : smC a) : l_toConstraint a = some a := by
  unfold l_toConstraint
  rw [toTerms _ h]
  rfl
theorem toCons (a : List Con) (h : smCs a) : l_toConstraintS a = some a :=
  copy_list (one := l_toConstraint) (b := l_toConstraintS_b1) (z := ⟨[], 0⟩) rfl (fun _ => rfl) h.1 (by intros; rfl) fun x hx => toCon x (h.2 x hx)
theorem eqTerm (t : Term) : l_eqTerm t t = some true := by
  unfold l_eqTerm
  simp
theorem eqTerms (a : List Term) : l_eqTermS a a = some true :=
  same_list (one := l_eqTerm) rfl rfl (fun i x hx => by show (idx a (i : Int)).bind _ = _; rw [idx_self hx]; rfl) fun x _ => eqTerm x
theorem eqCon (a : Con) : l_eqConstraint a a = some true := by
  unfold l_eqConstraint
  simp [eqTerms]
theorem eqCons (a : List Con) : l_eqConstraintS a a = some true :=
  same_list (one := l_eqConstraint) rfl rfl (fun i x hx => by show (idx a (i : Int)).bind _ = _; rw [idx_self hx]; rfl) fun x _ => eqCon x
end Go.L
namespace Go.L
open Go Go.E
set_option linter.unusedSimpArgs false
set_option linter.unusedVariables false
set_option maxRecDepth 100000
end Go.L
namespace Go.L
open Go Go.E
set_option linter.unusedSimpArgs false
set_option linter.unusedVariables false
set_option maxRecDepth 100000
def probT (list : List Con) : List UInt8 := (list.map conT).flatMap fun w => w ++ [10]
theorem probT_take {list : List Con} {i : Nat} {c : Con} (h : list[i]? = some c) : probT (list.take (i + 1)) = probT (list.take i) ++ (conT c ++ [10]) := by
  unfold probT
  rw [List.map_take, List.map_take, flat_take (fun w => w ++ [10]) (x := conT c) (by rw [List.getElem?_map, h]; rfl)]
theorem okProb_parts {list : List Con} (h : okProb list = true) : (∀ c ∈ list, okCon c = true) ∧ list.length ≤ 400 := by
  unfold okProb at h
  rw [Bool.and_eq_true] at h
  exact ⟨List.all_eq_true.1 h.1, by have := of_decide_eq_true h.2; omega⟩
theorem probT_len : ∀ {list : List Con}, (∀ c ∈ list, okCon c = true) → (probT list).length ≤ 129 * list.length
  | [], _ => by simp [probT]
  | c :: list, h => by
    have h1 := conT_len (h c (by simp))
    have h2 := probT_len (list := list) fun x hx => h x (by simp [hx])
    unfold probT at h2 ⊢
    rw [List.map_cons, List.flatMap_cons, List.length_append, List.length_append, List.length_cons]
    simp only [List.length_cons, List.length_nil]
    omega
theorem i_probText {list : List Con} (h : okProb list = true) : rangeL i_FormatProblem_b1 list 0 ByteArray.empty = some (.nx (bs (probT list))) := by
  obtain ⟨h1, h2⟩ := okProb_parts h
  have hl := range_to (b := i_FormatProblem_b1) (fun i => bs (probT (list.take i))) list fun i c hc => by
    have hok := h1 c (List.mem_of_getElem? hc)
    have e1 := conT_len hok
    have e2 := probT_len (list := list.take i) fun x hx => h1 x (List.mem_of_mem_take hx)
    have e3 : (list.take i).length ≤ 400 := by rw [List.length_take]; omega
    unfold i_FormatProblem_b1
    rw [i_text hok, Option.bind_some, show (⟨#[10]⟩ : ByteArray) = bs [10] from rfl, cat_bs (by simp only [List.length_cons, List.length_nil]; omega), Option.bind_some,
      catB_bs (by simp only [List.length_append, List.length_cons, List.length_nil]; omega), Option.bind_some, probT_take hc]
  rw [List.take_length] at hl
  exact hl
theorem s_probText {list : List Con} (h : okProb list = true) {fu : Nat} (hf : 30 ≤ fu) : rangeL (s_FormatProblem_b1 fu) list 0 (⟨#[]⟩ : ByteArray) = some (.nx (bs (probT list))) := by
  obtain ⟨h1, h2⟩ := okProb_parts h
  have hl := range_to (b := s_FormatProblem_b1 fu) (fun i => bs (probT (list.take i))) list fun i c hc => by
    have hok := h1 c (List.mem_of_getElem? hc)
    have e1 := conT_len hok
    have e2 := probT_len (list := list.take i) fun x hx => h1 x (List.mem_of_mem_take hx)
    have e3 : (list.take i).length ≤ 400 := by rw [List.length_take]; omega
    unfold s_FormatProblem_b1
    rw [s_text hok hf, Option.bind_some, cat_bs (by omega), Option.bind_some, show (⟨#[10]⟩ : ByteArray) = bs [10] from rfl,
      cat_bs (by simp only [List.length_append, List.length_cons, List.length_nil]; omega), Option.bind_some, probT_take hc, List.append_assoc]
  rw [List.take_length] at hl
  exact hl
def fmtP (list : List Con) : List UInt8 := if okProb list then probT list else []
theorem i_formatP (list : List Con) : i_FormatProblem list = some (bs (fmtP list)) := by
  unfold i_FormatProblem fmtP
  rw [i_problem, Option.bind_some]
  cases h : okProb list with
  | true => simp [i_probText h]
  | false => rfl
theorem s_formatP (list : List Con) (hl : ∀ c ∈ list, c.terms.length ≤ ML) {fu : Nat} (hf : 30 ≤ fu) : s_FormatProblem fu list = some (bs (fmtP list)) := by
  unfold s_FormatProblem fmtP
  rw [s_problem list hl, Option.bind_some]
  cases h : okProb list with
  | true => simp [s_probText h hf]
  | false => rfl
theorem lenP_of {xs : List Con} (h : gCons xs) : xs.length ≤ ML ∧ ∀ c ∈ xs, c.terms.length ≤ ML := ⟨h.1, fun c hc => (h.2 c hc).1.1⟩
theorem FnExactFormatProblem_ok (aList : List Con) (g0 : gCons aList) : ∃ fu, l_FnExactFormatProblem fu aList = some true := by
  refine ⟨FV, ?_⟩
  unfold l_FnExactFormatProblem
  refine sz_law (szCons aList 1048576 (by omega) (by omega) (lenP_of g0).1 (lenP_of g0).2) (by omega) fun r _ _ hc => ?_
  simp only [toCons _ hc, Option.bind_some, s_formatP _ (lenP_of g0).2 (show 30 ≤ FV by decide), i_formatP, eqCons, eq_bs]
  simp
end Go.L
