/- The plain law: what the functions compute, and that it answers as the statement says. -/
import Derived.Test.YteeilbddjlpiaaaG10
import Derived.Test.YteeilbddjlpiaaaD1
namespace Go.L
open Go Go.E
set_option linter.unusedVariables false
def FU : Nat := 1000000
section
variable {α β σ τ : Type}
theorem idx_nat (xs : List α) (i : Nat) : idx xs (i : Int) = xs[i]? := by
  unfold idx; rw [if_pos (Int.natCast_nonneg i), Int.toNat_natCast]
theorem idx_get {xs : List α} {k : Int} (h0 : 0 ≤ k) (h : k.toNat < xs.length) : idx xs k = some xs[k.toNat] := by
  unfold idx; rw [if_pos h0, List.getElem?_eq_getElem h]
theorem mkN_le {n : Nat} (x : α) (h : n ≤ 4294967296) : mkN (n : Int) x = some (List.replicate n x) := by
  unfold mkN
  rw [if_pos (by omega), Int.toNat_natCast]
theorem sl_pre {xs : List α} {i : Nat} (h : i ≤ xs.length) : sl xs 0 (i : Int) = some (xs.take i) := by
  unfold sl
  rw [if_pos (by omega), Int.toNat_natCast]
  rfl
theorem app_le {xs ys : List α} (h : xs.length + ys.length ≤ 4294967296) : app xs ys = some (xs ++ ys) := if_pos h
theorem cntF_nat {n : Nat} (h : n ≤ 4294967296) : cntF 0 (n : Int) = some n := by
  unfold cntF
  rw [if_pos (by omega)]
  congr 1
theorem cntF_of {s : Nat} {e : Int} (h : e ≤ 4294967296) (hs : s ≤ 4294967296) : cntF s e = some (e - s).toNat := if_pos ⟨h, hs⟩
theorem range_to {b : Nat → α → σ → Option (Lo σ τ)} (F : Nat → σ) (xs0 : List α) (h : ∀ i x, xs0[i]? = some x → b i x (F i) = some (.cont (F (i + 1)))) :
    rangeL b xs0 0 (F 0) = some (.nx (F xs0.length)) := by
  have key : ∀ (xs : List α) (i : Nat), xs0.drop i = xs → i ≤ xs0.length → rangeL b xs i (F i) = some (.nx (F xs0.length)) := by
    intro xs
    induction xs with
    | nil =>
      intro i hd hi
      rw [List.drop_eq_nil_iff] at hd
      obtain rfl : i = xs0.length := by omega
      rfl
    | cons x xs ih =>
      intro i hd hi
      have hx := drop_idx hd
      rw [idx_nat] at hx
      show (b i x (F i)).bind _ = _
      rw [h i x hx]
      exact ih (i + 1) (drop_next hd) (List.getElem?_eq_some_iff.1 hx).1
  exact key xs0 0 rfl (Nat.zero_le _)
theorem count_to {b : Nat → σ → Option (Lo σ τ)} (F : Nat → σ) : ∀ (n s : Nat), (∀ i, s ≤ i → i < s + n → b i (F i) = some (.cont (F (i + 1)))) → countL b n s (F s) = some (.nx (F (s + n)))
  | 0, s, _ => rfl
  | n + 1, s, h => by
    show (b s (F s)).bind _ = _
    rw [h s (Nat.le_refl _) (by omega)]
    show countL b n (s + 1) (F (s + 1)) = _
    rw [count_to F n (s + 1) fun i h1 h2 => h i (by omega) (by omega)]
    congr 3; omega
theorem range_inv {b : Nat → α → σ → Option (Lo σ τ)} (xs0 : List α) (I : Nat → σ → Prop) (Q : Jn σ τ → Prop) (h0 : ∀ s, I xs0.length s → Q (.nx s))
    (h : ∀ i x s, xs0[i]? = some x → I i s → ∃ o, b i x s = some o ∧ (match o with | .cont s' => I (i + 1) s' | .brk s' => Q (.nx s') | .out t => Q (.out t))) (s : σ) (hs : I 0 s) :
    ∃ j, rangeL b xs0 0 s = some j ∧ Q j := by
  have key : ∀ (xs : List α) (i : Nat) (s : σ), xs0.drop i = xs → i ≤ xs0.length → I i s → ∃ j, rangeL b xs i s = some j ∧ Q j := by
    intro xs
    induction xs with
    | nil =>
      intro i s hd hi hI
      rw [List.drop_eq_nil_iff] at hd
      obtain rfl : i = xs0.length := by omega
      exact ⟨_, rfl, h0 s hI⟩
    | cons x xs ih =>
      intro i s hd hi hI
      have hx := drop_idx hd
      rw [idx_nat] at hx
      obtain ⟨o, hb, ho⟩ := h i x s hx hI
      have hl := (List.getElem?_eq_some_iff.1 hx).1
      cases o with
      | cont s' =>
        obtain ⟨j, hj, hQ⟩ := ih (i + 1) s' (drop_next hd) hl ho
        exact ⟨j, by show (b i x s).bind _ = _; rw [hb]; exact hj, hQ⟩
      | brk s' => exact ⟨_, by show (b i x s).bind _ = _; rw [hb]; rfl, ho⟩
      | out t => exact ⟨_, by show (b i x s).bind _ = _; rw [hb]; rfl, ho⟩
  exact key xs0 0 s rfl (Nat.zero_le _) hs
theorem while_inv {b : σ → Option (Lo σ τ)} (I : Nat → σ → Prop) (Q : Jn σ τ → Prop)
    (h : ∀ n s, I n s → ∃ o, b s = some o ∧ (match o with | .cont s' => ∃ m, m < n ∧ I m s' | .brk s' => Q (.nx s') | .out t => Q (.out t))) :
    ∀ k n s, I n s → n < k → ∃ j, whileL b k s = some j ∧ Q j := by
  intro k
  induction k with
  | zero => intro n s _ h; omega
  | succ k ih =>
    intro n s hI hk
    obtain ⟨o, hb, ho⟩ := h n s hI
    cases o with
    | cont s' =>
      obtain ⟨m, hm, hI'⟩ := ho
      obtain ⟨j, hj, hQ⟩ := ih m s' hI' (by omega)
      exact ⟨j, by show (b s).bind _ = _; rw [hb]; exact hj, hQ⟩
    | brk s' => exact ⟨_, by show (b s).bind _ = _; rw [hb]; rfl, ho⟩
    | out t => exact ⟨_, by show (b s).bind _ = _; rw [hb]; rfl, ho⟩
def allFrom (q : Nat → α → Bool) : List α → Nat → Bool
  | [], _ => true
  | x :: xs, i => q i x && allFrom q xs (i + 1)
theorem allFrom_const (q : α → Bool) : ∀ (xs : List α) (i : Nat), allFrom (fun _ x => q x) xs i = xs.all q
  | [], _ => rfl
  | x :: xs, i => by rw [allFrom, allFrom_const q xs, List.all_cons]
theorem allFrom_iff (q : Nat → α → Bool) : ∀ (xs : List α) (k : Nat), allFrom q xs k = true ↔ ∀ i x, xs[i]? = some x → q (k + i) x = true
  | [], k => by simp [allFrom]
  | x :: xs, k => by
    rw [allFrom, Bool.and_eq_true, allFrom_iff q xs (k + 1)]
    constructor
    · rintro ⟨h0, h⟩ i y hy
      cases i with
      | zero => simp at hy; subst hy; simpa using h0
      | succ i => have := h i y (by simpa using hy); rwa [show k + 1 + i = k + (i + 1) from by omega] at this
    · intro h
      exact ⟨by simpa using h 0 x rfl, fun i y hy => by have := h (i + 1) y (by simpa using hy); rwa [show k + (i + 1) = k + 1 + i from by omega] at this⟩
theorem range_allI (q : Nat → α → Bool) (t : τ) {b : Nat → α → Unit → Option (Lo Unit τ)} (xs0 : List α)
    (hb : ∀ (i : Nat) (x : α), xs0[i]? = some x → b i x () = some (if q i x then .cont () else .out t)) : rangeL b xs0 0 () = some (if allFrom q xs0 0 then .nx () else .out t) := by
  have key : ∀ (xs : List α) (i : Nat), xs0.drop i = xs → rangeL b xs i () = some (if allFrom q xs i then .nx () else .out t) := by
    intro xs
    induction xs with
    | nil => intro i _; rfl
    | cons x xs ih =>
      intro i h
      have hx := drop_idx h
      rw [idx_nat] at hx
      show (b i x ()).bind _ = _
      rw [hb i x hx]
      cases hq : q i x with
      | true => show rangeL b xs (i + 1) () = _; rw [ih (i + 1) (drop_next h)]; simp [allFrom, hq]
      | false => simp [allFrom, hq]
  exact key xs0 0 rfl
theorem range_all (q : α → Bool) (t : τ) {b : Nat → α → Unit → Option (Lo Unit τ)} (xs0 : List α)
    (hb : ∀ (i : Nat) (x : α), xs0[i]? = some x → b i x () = some (if q x then .cont () else .out t)) : rangeL b xs0 0 () = some (if xs0.all q then .nx () else .out t) := by
  rw [range_allI (fun _ => q) t xs0 hb, allFrom_const]
theorem range_map {b : Nat → α → List β → Option (Lo (List β) τ)} (f : α → β) (xs0 : List α) (h : ∀ i x out, xs0[i]? = some x → out.length = i → b i x out = some (.cont (out ++ [f x]))) :
    rangeL b xs0 0 [] = some (.nx (xs0.map f)) := by
  have := range_to (b := b) (fun i => (xs0.take i).map f) xs0 (by
    intro i x hx
    have hi := (List.getElem?_eq_some_iff.1 hx).1
    rw [h i x _ hx (by simp; omega)]
    rw [List.take_add_one, hx]
    simp)
  simpa using this
theorem range_index {q : α → Bool} {b : Nat → α → Unit → Option (Lo Unit Int)} (xs0 : List α) (hb : ∀ i x, xs0[i]? = some x → b i x () = some (if q x then .out (i : Int) else .cont ())) :
    ∃ j, rangeL b xs0 0 () = some j ∧ (match j with | .nx _ => xs0.any q = false | .out t => 0 ≤ t ∧ xs0.any q = true) := by
  refine range_inv xs0 (fun i _ => (xs0.take i).any q = false) _ ?_ ?_ () (by simp)
  · intro s h; simpa using h
  · intro i x s hx hI
    have hi := (List.getElem?_eq_some_iff.1 hx).1
    refine ⟨_, hb i x hx, ?_⟩
    cases hq : q x with
    | true => exact ⟨by omega, List.any_eq_true.2 ⟨x, List.mem_of_getElem? hx, hq⟩⟩
    | false =>
      show (xs0.take (i + 1)).any q = false
      rw [List.take_add_one, hx, List.any_append, hI]
      simp [hq]
end
end Go.L
namespace Go.L
open Go Go.E
set_option linter.unusedVariables false
set_option linter.unusedSimpArgs false
set_option maxRecDepth 100000
def absI (n : Int) : Int := max n (-n)
def okT (t : Term) : Bool := (t.lit != 0 && decide (-12 ≤ t.lit) && decide (t.lit ≤ 12)) && (decide (1 ≤ t.coef) && decide (t.coef ≤ 1000))
def okTerms : Int → List Term → Bool
  | _, [] => true
  | b, t :: ts => (okT t && decide (b < absI t.lit)) && okTerms (absI t.lit) ts
def okB (b : Int) : Bool := decide (0 ≤ b) && decide (b ≤ 20000)
def okCon (c : Con) : Bool := okTerms 0 c.terms && okB c.bound
theorem i_valid_loop : ∀ (ts : List Term) (i : Nat) (b : Int), ∃ b', rangeL i_ConstraintValid_b1 ts i b = some (if okTerms b ts then .nx b' else .out false)
  | [], i, b => ⟨b, rfl⟩
  | t :: ts, i, b => by
    obtain ⟨b', h⟩ := i_valid_loop ts (i + 1) (absI t.lit)
    refine ⟨b', ?_⟩
    show (i_ConstraintValid_b1 i t b).bind _ = _
    have e : i_ConstraintValid_b1 i t b = some (if okT t && decide (b < absI t.lit) then .cont (absI t.lit) else .out false) := by
      unfold i_ConstraintValid_b1 i_isLiteral i_within i_variableOf okT absI
      by_cases h0 : t.lit = 0
      · simp [h0]
      by_cases h1 : -12 ≤ t.lit ∧ t.lit ≤ 12
      · rw [i64_id (n := -t.lit) (by omega) (by omega)]
        by_cases h2 : 1 ≤ t.coef ∧ t.coef ≤ 1000
        · by_cases h3 : b < max t.lit (-t.lit)
          · have : ¬ max t.lit (-t.lit) ≤ b := by omega
            simp [h0, h1.1, h1.2, h2.1, h2.2, h3, this]
          · have : max t.lit (-t.lit) ≤ b := by omega
            simp [h0, h1.1, h1.2, h2.1, h2.2, h3, this]
        · have h2' : (decide (1 ≤ t.coef) && decide (t.coef ≤ 1000)) = false := by simp; omega
          simp only [h2']
          simp [h0, h1.1, h1.2]
      · have h1' : (decide (-12 ≤ t.lit) && decide (t.lit ≤ 12)) = false := by simp; omega
        simp only [Bool.and_assoc, h1']
        simp [h0]
    rw [e, okTerms]
    cases okT t && decide (b < absI t.lit) with
    | true => simpa using h
    | false => rfl
theorem i_valid (c : Con) : i_ConstraintValid c = some (okCon c) := by
  unfold i_ConstraintValid okCon
  obtain ⟨b', h⟩ := i_valid_loop c.terms 0 0
  rw [h]
  cases okTerms 0 c.terms <;> simp [i_within, okB]
theorem s_abs (n : Int) (h1 : -9223372036854775807 ≤ n) (h2 : n ≤ 9223372036854775807) : s_l1Abs n = some (absI n) := by
  unfold s_l1Abs absI
  by_cases h : n < 0
  · rw [if_pos (by simpa using h), i64_id (by omega) (by omega)]; congr 1; omega
  · rw [if_neg (by simpa using h)]; congr 1; omega
theorem okT_lit {t : Term} (h : okT t = true) : t.lit ≠ 0 ∧ -12 ≤ t.lit ∧ t.lit ≤ 12 ∧ 1 ≤ t.coef ∧ t.coef ≤ 1000 := by
  unfold okT at h
  simp at h
  exact ⟨h.1.1.1, h.1.1.2, h.1.2, h.2.1, h.2.2⟩
end Go.L
namespace Go.L
open Go Go.E
set_option linter.unusedVariables false
set_option linter.unusedSimpArgs false
set_option maxRecDepth 100000
theorem okTerms_len : ∀ (ts : List Term) (b : Int), 0 ≤ b → okTerms b ts = true → (ts.length : Int) + b ≤ 12 ∨ ts = []
  | [], _, _, _ => .inr rfl
  | t :: ts, b, hb, h => by
    rw [okTerms, Bool.and_eq_true, Bool.and_eq_true] at h
    obtain ⟨⟨h1, h2⟩, h3⟩ := h
    obtain ⟨h0, l1, l2, _, _⟩ := okT_lit h1
    have h2 := of_decide_eq_true h2
    have ha : absI t.lit ≤ 12 := by unfold absI; omega
    left
    rcases okTerms_len ts (absI t.lit) (by omega) h3 with h | h
    · simp; omega
    · subst h; simp; omega
theorem okTerms_all : ∀ (ts : List Term) (b : Int), okTerms b ts = true → ∀ t ∈ ts, okT t = true
  | [], _, _, t, ht => by cases ht
  | t :: ts, b, h, u, hu => by
    rw [okTerms, Bool.and_eq_true, Bool.and_eq_true] at h
    rcases List.mem_cons.1 hu with rfl | hu
    · exact h.1.1
    · exact okTerms_all ts _ h.2 u hu
theorem okCon_parts {c : Con} (h : okCon c = true) : okTerms 0 c.terms = true ∧ c.terms.length ≤ 12 ∧ (∀ t ∈ c.terms, okT t = true) ∧ 0 ≤ c.bound ∧ c.bound ≤ 20000 := by
  unfold okCon okB at h
  simp at h
  refine ⟨h.1, ?_, okTerms_all _ _ h.1, h.2.1, h.2.2⟩
  rcases okTerms_len _ _ (Int.le_refl 0) h.1 with h | h
  · omega
  · rw [h]; simp
end Go.L
namespace Go.L
open Go Go.E
set_option linter.unusedVariables false
set_option linter.unusedSimpArgs false
set_option maxRecDepth 100000
end Go.L
namespace Go.L
open Go Go.E
set_option linter.unusedVariables false
set_option linter.unusedSimpArgs false
set_option maxRecDepth 100000
end Go.L
namespace Go.L
open Go Go.E
set_option linter.unusedVariables false
set_option linter.unusedSimpArgs false
set_option maxRecDepth 100000
end Go.L
namespace Go.L
open Go Go.E
set_option linter.unusedVariables false
set_option linter.unusedSimpArgs false
set_option maxRecDepth 100000
def asg (p : List Int) (l : Int) : List Int := if l > 0 then p.set (l - 1).toNat 1 else p.set (-l - 1).toNat (-1)
def lit12 (l : Int) : Prop := l ≠ 0 ∧ -12 ≤ l ∧ l ≤ 12
def asgL (p : List Int) (ls : List Int) : List Int := ls.foldl asg p
end Go.L
namespace Go.L
open Go Go.E
set_option linter.unusedVariables false
set_option linter.unusedSimpArgs false
set_option maxRecDepth 100000
def sumR (f : Term → Int) : List Term → Int
  | [] => 0
  | t :: ts => f t + sumR f ts
theorem okT_lit12 {t : Term} (h : okT t = true) : lit12 t.lit := ⟨(okT_lit h).1, (okT_lit h).2.1, (okT_lit h).2.2.1⟩
def zer (p : List Int) : Nat := p.countP (· == 0)
end Go.L
namespace Go.L
open Go Go.E
set_option linter.unusedVariables false
set_option linter.unusedSimpArgs false
set_option maxRecDepth 100000
def zeroP : List Int := List.replicate 12 0
end Go.L
namespace Go.L
open Go Go.E
set_option linter.unusedVariables false
set_option linter.unusedSimpArgs false
set_option maxRecDepth 100000
theorem i_clone_int (xs : List Int) (h : xs.length ≤ 4000000) : slices_Clone_int xs = some xs := by
  unfold slices_Clone_int
  rw [app_le (by simp; omega)]
  rfl
end Go.L
namespace Go.L
open Go Go.E
set_option linter.unusedVariables false
set_option linter.unusedSimpArgs false
set_option maxRecDepth 100000
end Go.L
namespace Go.L
open Go Go.E
set_option linter.unusedVariables false
set_option linter.unusedSimpArgs false
set_option maxRecDepth 100000
def So {α : Type} (x : Option α) (P : α → Prop) : Prop := ∃ a, x = some a ∧ P a
section
variable {α β σ τ : Type}
theorem so_some {a : α} {P : α → Prop} (h : P a) : So (some a) P := ⟨a, rfl, h⟩
theorem so_bind {x : Option α} {f : α → Option β} {P : α → Prop} {Q : β → Prop} (hx : So x P) (hf : ∀ a, P a → So (f a) Q) : So (x.bind f) Q := by
  obtain ⟨a, rfl, ha⟩ := hx
  exact hf a ha
theorem so_ite {c : Prop} [Decidable c] {x y : Option α} {P : α → Prop} (h1 : c → So x P) (h2 : ¬ c → So y P) : So (if c then x else y) P := by
  split
  · exact h1 ‹_›
  · exact h2 ‹_›
theorem so_app {xs ys : List α} (h : xs.length + ys.length ≤ 4294967296) {P : List α → Prop} (hp : P (xs ++ ys)) : So (app xs ys) P := ⟨_, app_le h, hp⟩
theorem so_idx {xs : List α} {k : Int} {P : α → Prop} (h0 : 0 ≤ k) (h1 : k < (xs.length : Int)) (h : ∀ x ∈ xs, P x) : So (idx xs k) P := by
  have hl : k.toNat < xs.length := by omega
  exact ⟨_, idx_get h0 hl, h _ (List.getElem_mem hl)⟩
theorem so_while {b : σ → Option (Lo σ τ)} (I : Nat → σ → Prop) (Q : σ → Prop) (n : Nat) (s : σ) (fu : Nat) (hf : n < fu) (h0 : I n s)
    (h : ∀ n s, I n s → So (b s) fun o => (∃ s' m, o = .cont s' ∧ m < n ∧ I m s') ∨ (∃ s', o = .brk s' ∧ Q s')) : So (whileL b fu s) fun j => ∃ s', j = .nx s' ∧ Q s' := by
  obtain ⟨j, hj, hQ⟩ := while_inv (b := b) I (fun j => ∃ s', j = .nx s' ∧ Q s') (fun n s hI => by
    obtain ⟨o, ho, ⟨s', m, rfl, hm, hs'⟩ | ⟨s', rfl, hs'⟩⟩ := h n s hI
    · exact ⟨_, ho, m, hm, hs'⟩
    · exact ⟨_, ho, s', rfl, hs'⟩) fu n s h0 hf
  exact ⟨j, hj, hQ⟩
end
def PM : Int := 1000000
theorem xor_nonneg {m n : Int} (hm : 0 ≤ m) (hm2 : m ≤ 9223372036854775807) (hn : 0 ≤ n) (hn2 : n ≤ 9223372036854775807) : 0 ≤ xorI .i64 m n := by
  obtain ⟨a, rfl⟩ := Int.eq_ofNat_of_zero_le hm
  obtain ⟨b, rfl⟩ := Int.eq_ofNat_of_zero_le hn
  have hx : a ^^^ b < 2 ^ 63 := Nat.xor_lt_two_pow (by omega) (by omega)
  have h1 : (BitVec.ofInt (IntKind.bits .i64) (a : Int) ^^^ BitVec.ofInt (IntKind.bits .i64) (b : Int)).toNat = a ^^^ b := by
    show (BitVec.ofInt 64 (a : Int) ^^^ BitVec.ofInt 64 (b : Int)).toNat = a ^^^ b
    rw [BitVec.toNat_xor, BitVec.toNat_ofInt, BitVec.toNat_ofInt]
    congr 1 <;> omega
  unfold xorI
  rw [h1]
  have : i64 ((a ^^^ b : Nat) : Int) = ((a ^^^ b : Nat) : Int) := i64_id (by omega) (by omega)
  show 0 ≤ i64 ((a ^^^ b : Nat) : Int)
  rw [this]
  omega
theorem pick_ok (r : Rd) (n : Int) (hb : r.b.length ≤ 2000) (h0 : 0 ≤ r.p) (h1 : r.p ≤ PM) : So (s_l17Rd_pick r n) fun o => o.2 = r.p + 1 ∧ 0 ≤ o.1 ∧ (1 ≤ n → o.1 < n) := by
  unfold PM at h1
  unfold s_l17Rd_pick
  have e1 : i64 (r.p + 1) = r.p + 1 := i64_id (by omega) (by omega)
  have e2 : i64 (r.p + 1 - 1) = r.p := by rw [i64_id (by omega) (by omega)]; omega
  rw [e1, e2]
  refine so_ite (fun h => so_some ⟨rfl, Int.le_refl _, fun h => by omega⟩) fun h => ?_
  simp only [Bool.or_eq_true, decide_eq_true_eq, beq_iff_eq, not_or] at h
  have hn : n ≠ 0 := by omega
  have hl : (r.b.length : Int) ≠ 0 := h.2
  refine so_ite (fun hc => ?_) fun hc => ?_
  · have hc := of_decide_eq_true hc
    refine so_bind (so_idx h0 hc fun x _ => trivial) fun x _ => ?_
    rw [if_neg hn]
    refine so_some ⟨rfl, ?_, fun _ => ?_⟩
    · have : i64 (x.toNat : Int) = x.toNat := i64_id (by omega) (by have := x.toNat_lt; omega)
      rw [this]; exact Int.tmod_nonneg _ (by omega)
    · exact Int.tmod_lt_of_pos _ (by omega)
  · rw [if_neg hl]
    have m0 : ∀ z : Int, 0 ≤ z → 0 ≤ Int.tmod z (r.b.length : Int) ∧ Int.tmod z (r.b.length : Int) < (r.b.length : Int) := fun z hz => ⟨Int.tmod_nonneg _ hz, Int.tmod_lt_of_pos _ (by omega)⟩
    have e3 : i64 (i64 (r.p * 7) + 3) = r.p * 7 + 3 := by rw [i64_id (n := r.p * 7) (by omega) (by omega), i64_id (by omega) (by omega)]
    refine so_bind (so_some (P := fun _ => True) trivial) fun _ _ => so_bind (so_idx (m0 _ h0).1 (m0 _ h0).2 fun x _ => trivial) fun x _ => so_bind (so_some (P := fun _ => True) trivial) fun _ _ => ?_
    rw [e3]
    refine so_bind (so_idx (m0 _ (by omega)).1 (m0 _ (by omega)).2 fun x _ => trivial) fun y _ => so_bind (so_some (P := fun _ => True) trivial) fun _ _ => ?_
    rw [if_neg hn]
    refine so_bind (so_some (P := fun _ => True) trivial) fun _ _ => so_some ⟨rfl, ?_, fun _ => Int.tmod_lt_of_pos _ (by omega)⟩
    refine Int.tmod_nonneg _ ?_
    have hx := x.toNat_lt
    have hy := y.toNat_lt
    have hq : 0 ≤ Int.tdiv r.p (r.b.length : Int) := Int.tdiv_nonneg h0 (by omega)
    have hq2 : Int.tdiv r.p (r.b.length : Int) ≤ r.p := Int.tdiv_le_self _ h0
    have f1 : i64 (x.toNat : Int) = x.toNat := i64_id (by omega) (by omega)
    have f2 : i64 (y.toNat : Int) = y.toNat := i64_id (by omega) (by omega)
    have f3 : i64 ((x.toNat : Int) * 131) = x.toNat * 131 := i64_id (by omega) (by omega)
    have f4 : i64 ((y.toNat : Int) * 1117) = y.toNat * 1117 := i64_id (by omega) (by omega)
    have f5 : i64 ((x.toNat : Int) * 131 + y.toNat * 1117) = x.toNat * 131 + y.toNat * 1117 := i64_id (by omega) (by omega)
    have f6 : i64 (r.p * 29) = r.p * 29 := i64_id (by omega) (by omega)
    have f7 : i64 ((x.toNat : Int) * 131 + y.toNat * 1117 + r.p * 29) = x.toNat * 131 + y.toNat * 1117 + r.p * 29 := i64_id (by omega) (by omega)
    have f8 : i64 (Int.tdiv r.p (r.b.length : Int)) = Int.tdiv r.p (r.b.length : Int) := i64_id (by omega) (by omega)
    have f9 : i64 (Int.tdiv r.p (r.b.length : Int) * 53) = Int.tdiv r.p (r.b.length : Int) * 53 := i64_id (by omega) (by omega)
    have fa : i64 ((x.toNat : Int) * 131 + y.toNat * 1117 + r.p * 29 + Int.tdiv r.p (r.b.length : Int) * 53) = x.toNat * 131 + y.toNat * 1117 + r.p * 29 + Int.tdiv r.p (r.b.length : Int) * 53 := i64_id (by omega) (by omega)
    rw [f1, f2, f3, f4, f5, f6, f7, f8, f9, fa]
    generalize hz : (x.toNat : Int) * 131 + y.toNat * 1117 + r.p * 29 + Int.tdiv r.p (r.b.length : Int) * 53 = z
    have z0 : 0 ≤ z := by omega
    have z1 : z ≤ 1000000000000 := by omega
    have d0 : 0 ≤ Int.tdiv z 64 := Int.tdiv_nonneg z0 (by omega)
    have d1 : Int.tdiv z 64 ≤ z := Int.tdiv_le_self _ z0
    rw [i64_id (n := Int.tdiv z 64) (by omega) (by omega)]
    exact xor_nonneg z0 (by omega) d0 (by omega)
theorem num_ok (r : Rd) (xs : List Int) (hx : xs ≠ []) (hb : r.b.length ≤ 2000) (h0 : 0 ≤ r.p) (h1 : r.p ≤ PM) : So (s_l17Rd_num r xs) fun o => o.2 = r.p + 1 ∧ o.1 ∈ xs := by
  unfold s_l17Rd_num
  have hl : 1 ≤ (xs.length : Int) := by have := List.length_pos_iff.2 hx; omega
  refine so_bind (pick_ok r _ hb h0 h1) fun a ⟨ha, hb0, hb1⟩ => ?_
  refine so_bind (so_idx (P := fun x => x ∈ xs) hb0 (hb1 hl) fun x hx => hx) fun x hx => so_some ⟨ha, hx⟩
theorem open_ok (code : List UInt8) : So (s_l17Open code) fun r => r.b.length ≤ 2000 ∧ r.p = 0 := by
  unfold s_l17Open
  refine so_bind (P := fun (c : List UInt8) => c.length ≤ 2000) (so_ite (fun h => ?_) fun h => so_some ?_) fun c hc => so_some ⟨hc, rfl⟩
  · have h := of_decide_eq_true h
    have h2 : sl code 0 2000 = some (code.take 2000) := sl_pre (i := 2000) (by omega)
    rw [h2]
    exact so_some (by rw [List.length_take]; omega)
  · simp only [decide_eq_true_eq] at h; omega
end Go.L
namespace Go.L
open Go Go.E
set_option linter.unusedVariables false
set_option linter.unusedSimpArgs false
set_option maxRecDepth 100000
end Go.L
namespace Go.L
open Go Go.E
set_option linter.unusedVariables false
set_option linter.unusedSimpArgs false
set_option maxRecDepth 100000
def zeroC : Con := ⟨[], 0⟩
theorem okTerms_map (f : Term → Term) : ∀ (ts : List Term) (b : Int), okTerms b ts = true → (∀ t ∈ ts, okT t = true → okT (f t) = true ∧ (f t).lit = t.lit) → okTerms b (ts.map f) = true
  | [], _, _, _ => rfl
  | t :: ts, b, h, hf => by
    rw [okTerms, Bool.and_eq_true, Bool.and_eq_true] at h
    have := hf t (by simp) h.1.1
    rw [List.map_cons, okTerms, Bool.and_eq_true, Bool.and_eq_true, this.2]
    exact ⟨⟨this.1, h.1.2⟩, okTerms_map f ts _ h.2 fun u hu => hf u (by simp [hu])⟩
theorem sumR_snoc (f : Term → Int) (ts : List Term) (t : Term) : sumR f (ts ++ [t]) = sumR f ts + f t := by
  induction ts with
  | nil => simp [sumR]
  | cons u ts ih => rw [List.cons_append, sumR, ih, sumR]; omega
theorem take_snoc {α : Type} {xs : List α} {i : Nat} {x : α} (h : xs[i]? = some x) : xs.take (i + 1) = xs.take i ++ [x] := by rw [List.take_add_one, h]; rfl
theorem sumR_zero {f : Term → Int} : ∀ (ts : List Term), (∀ t ∈ ts, f t = 0) → sumR f ts = 0
  | [], _ => rfl
  | t :: ts, h => by rw [sumR, h t (by simp), sumR_zero ts fun u hu => h u (by simp [hu])]; rfl
def scaleC (f : Int → Int) (c : Con) : Con := ⟨c.terms.map (fun t => ⟨f t.coef, t.lit⟩), f c.bound⟩
def validC (c : Con) : Con × Bool := if okCon c then (c, true) else (zeroC, false)
def okK (k : Int) : Bool := decide (1 ≤ k) && decide (k ≤ 1000)
def upI (k n : Int) : Int := Int.tdiv (n + k - 1) k
def divC (c : Con) (k : Int) : Con × Bool := if okCon c && okK k then (scaleC (upI k) c, true) else (zeroC, false)
theorem okK_iff {k : Int} : okK k = true ↔ 1 ≤ k ∧ k ≤ 1000 := by unfold okK; simp
theorem upI_spec {n k : Int} (hn : 0 ≤ n) (hk : 1 ≤ k) : n ≤ k * upI k n ∧ k * upI k n ≤ n + k - 1 ∧ 0 ≤ upI k n := by
  unfold upI
  have e : Int.tdiv (n + k - 1) k = (n + k - 1) / k := Int.tdiv_eq_ediv_of_nonneg (by omega)
  rw [e]
  have h1 := Int.mul_ediv_add_emod (n + k - 1) k
  have h2 := Int.emod_nonneg (n + k - 1) (show k ≠ 0 by omega)
  have h3 := Int.emod_lt_of_pos (n + k - 1) (show 0 < k by omega)
  refine ⟨by omega, by omega, Int.ediv_nonneg (by omega) (by omega)⟩
theorem upI_le {n k B : Int} (hn : 0 ≤ n) (hk : 1 ≤ k) (hB : n ≤ B) : upI k n ≤ B := by
  obtain ⟨h1, h2, h3⟩ := upI_spec hn hk
  apply Classical.byContradiction
  intro h
  have h4 : k * (B + 1) ≤ k * upI k n := Int.mul_le_mul_of_nonneg_left (by omega) (by omega)
  have h5 : k * (B + 1) = k * B + k := by rw [Int.mul_add, Int.mul_one]
  have h6 : 1 * B ≤ k * B := Int.mul_le_mul_of_nonneg_right hk (by omega)
  omega
theorem upI_pos {n k : Int} (hn : 1 ≤ n) (hk : 1 ≤ k) : 1 ≤ upI k n := by
  obtain ⟨h1, h2, h3⟩ := upI_spec (n := n) (by omega) hk
  apply Classical.byContradiction
  intro h
  have : upI k n = 0 := by omega
  rw [this] at h1
  omega
theorem i_valid2 (c : Con) : i_Constraint_valid c = some (validC c) := by
  unfold i_Constraint_valid validC
  rw [i_valid, Option.bind_some]
  cases okCon c <;> rfl
theorem clone_term (xs : List Term) (h : xs.length ≤ 4000000) : slices_Clone_implTerm xs = some xs := by
  unfold slices_Clone_implTerm
  rw [app_le (by simp; omega)]
  rfl
theorem i_changed {c : Con} (hc : okCon c = true) (f : Int → Int) (g : Int → Option Int) (h1 : g c.bound = some (f c.bound)) (h2 : ∀ t ∈ c.terms, g t.coef = some (f t.coef)) : i_Constraint_changed c g = some (validC (scaleC f c)) := by
  obtain ⟨_, hn, _, _, _⟩ := okCon_parts hc
  unfold i_Constraint_changed i_Constraint_own
  rw [clone_term c.terms (by omega), Option.bind_some, Option.bind_some, h1, Option.bind_some]
  have := range_to (b := i_Constraint_changed_b1 g) (fun i => (c.terms.take i).map (fun t => (⟨f t.coef, t.lit⟩ : Term)) ++ c.terms.drop i) c.terms (by
    intro i t ht
    have hi := (List.getElem?_eq_some_iff.1 ht).1
    have hl : ((c.terms.take i).map (fun t => (⟨f t.coef, t.lit⟩ : Term))).length = i := by simp; omega
    have hd : c.terms.drop i = t :: c.terms.drop (i + 1) := by
      rw [List.drop_eq_getElem_cons hi]
      have := (List.getElem?_eq_some_iff.1 ht).2
      rw [this]
    have e1 : idx ((c.terms.take i).map (fun t => (⟨f t.coef, t.lit⟩ : Term)) ++ c.terms.drop i) (i : Int) = some t := by
      rw [idx_nat, List.getElem?_append_right (by omega), hl, Nat.sub_self, hd]
      rfl
    rw [i_Constraint_changed_b1, e1, Option.bind_some, h2 t (List.mem_of_getElem? ht), Option.bind_some, Int.toNat_natCast, take_snoc ht, List.map_append, hd]
    congr 2
    rw [List.set_append_right _ _ (by omega), hl, Nat.sub_self]
    simp)
  have e0 : c.terms = (c.terms.take 0).map (fun t => (⟨f t.coef, t.lit⟩ : Term)) ++ c.terms.drop 0 := by simp
  have e1 : (c.terms.take c.terms.length).map (fun t => (⟨f t.coef, t.lit⟩ : Term)) ++ c.terms.drop c.terms.length = (scaleC f c).terms := by simp [scaleC]
  rw [← e0, e1] at this
  simp only
  rw [this, Option.bind_some]
  simp only
  rw [i_valid2]
  rfl
theorem up_eq {n k B : Int} (hn : 0 ≤ n) (hB : n ≤ B) (hB2 : B ≤ 1000000) (hk : 1 ≤ k) (hk2 : k ≤ 1000) : i64 (Int.tdiv (i64 ((i64 (n + k)) - 1)) k) = upI k n := by
  have h1 := upI_le hn hk hB
  have h2 := (upI_spec hn hk).2.2
  rw [i64_id (n := n + k) (by omega) (by omega), i64_id (n := n + k - 1) (by omega) (by omega)]
  show i64 (upI k n) = _
  rw [i64_id (by omega) (by omega)]
theorem div_ok {c : Con} (hc : okCon c = true) {k : Int} (hk : 1 ≤ k) : okCon (scaleC (upI k) c) = true := by
  obtain ⟨h1, h2, h3, h4, h5⟩ := okCon_parts hc
  have := okTerms_map (fun t => (⟨upI k t.coef, t.lit⟩ : Term)) c.terms 0 h1 fun t ht hkt => by
    obtain ⟨q0, q1, q2, q3, q4⟩ := okT_lit hkt
    have a1 := upI_pos q3 hk
    have a2 := upI_le (n := t.coef) (by omega) hk q4
    refine ⟨?_, rfl⟩
    unfold okT
    simp
    omega
  have a1 := (upI_spec h4 hk).2.2
  have a2 := upI_le h4 hk h5
  unfold okCon okB scaleC
  simp only [this]
  simp
  omega
theorem i_div (c : Con) (k : Int) : i_DivideConstraint c k = some (divC c k) := by
  unfold i_DivideConstraint divC i_within
  rw [i_valid c, Option.bind_some]
  cases hc : okCon c with
  | false => rfl
  | true =>
    obtain ⟨h1, h2, h3, h4, h5⟩ := okCon_parts hc
    have ek : (decide (1 ≤ k) && decide (k ≤ 1000)) = okK k := rfl
    rw [ek]
    cases hk : okK k with
    | false => rfl
    | true =>
      rw [okK_iff] at hk
      simp only [Bool.not_true, Bool.false_eq_true, if_false, Option.bind_some, Bool.and_self, if_true]
      rw [i_changed hc (upI k) (i_DivideConstraint_1 k)]
      · rw [Option.bind_some, validC, div_ok hc hk.1]
        rfl
      · rw [i_DivideConstraint_1, if_neg (by omega), up_eq h4 h5 (by omega) hk.1 hk.2]
        rfl
      · intro t ht
        obtain ⟨_, _, _, q3, q4⟩ := okT_lit (h3 t ht)
        rw [i_DivideConstraint_1, if_neg (by omega), up_eq (n := t.coef) (by omega) q4 (by omega) hk.1 hk.2]
        rfl
end Go.L
namespace Go.L
open Go Go.E
set_option linter.unusedVariables false
set_option linter.unusedSimpArgs false
set_option maxRecDepth 100000
def con1 (k : Int) (t : Term) : Int := if t.lit = k then t.coef else if t.lit = -k then -t.coef else 0
def netF (ts : List Term) (k : Int) : Int := sumR (con1 k) ts
def negS (ts : List Term) : Int := sumR (fun t => if t.lit < 0 then t.coef else 0) ts
def okLit (t : Term) : Prop := lit12 t.lit ∧ -1000 ≤ t.coef ∧ t.coef ≤ 1000
theorem sumR_abs {f : Term → Int} : ∀ (ts : List Term), (∀ t ∈ ts, -1000 ≤ f t ∧ f t ≤ 1000) → -(1000 * (ts.length : Int)) ≤ sumR f ts ∧ sumR f ts ≤ 1000 * ts.length
  | [], _ => by simp [sumR]
  | t :: ts, h => by
    have h1 := h t (by simp)
    have := sumR_abs (f := f) ts fun u hu => h u (by simp [hu])
    simp only [sumR, List.length_cons]; omega
theorem netF_bound {ts : List Term} (h : ∀ t ∈ ts, okLit t) (hl : ts.length ≤ 100) (k : Int) : -100000 ≤ netF ts k ∧ netF ts k ≤ 100000 := by
  have := sumR_abs (f := con1 k) ts fun t ht => by
    obtain ⟨_, h1, h2⟩ := h t ht
    unfold con1
    split
    · omega
    · split <;> omega
  unfold netF
  omega
theorem negS_bound {ts : List Term} (h : ∀ t ∈ ts, okLit t) (hl : ts.length ≤ 100) : -100000 ≤ negS ts ∧ negS ts ≤ 100000 := by
  have := sumR_abs (f := fun t => if t.lit < 0 then t.coef else 0) ts fun t ht => by
    obtain ⟨_, h1, h2⟩ := h t ht
    split <;> omega
  unfold negS
  omega
def rowN (ts : List Term) : List Int := (List.range 13).map fun (k : Nat) => netF ts (k : Int)
theorem rowN_len (ts : List Term) : (rowN ts).length = 13 := by simp [rowN]
theorem rowN_get (ts : List Term) (k : Nat) (h : k < 13) : (rowN ts)[k]? = some (netF ts (k : Int)) := by
  unfold rowN
  rw [List.getElem?_map, List.getElem?_range h]
  rfl
theorem netF_snoc (ts : List Term) (t : Term) (k : Int) : netF (ts ++ [t]) k = netF ts k + con1 k t := sumR_snoc _ _ _
theorem negS_snoc (ts : List Term) (t : Term) : negS (ts ++ [t]) = negS ts + (if t.lit < 0 then t.coef else 0) := sumR_snoc _ _ _
theorem row_set (ts : List Term) (t : Term) (ht : okLit t) (k : Nat) (hk : (k : Int) = absI t.lit) (y : Int) (hy : y = netF ts (k : Int) + (if t.lit > 0 then t.coef else -t.coef)) : (rowN ts).set k y = rowN (ts ++ [t]) := by
  obtain ⟨⟨h0, h1, h2⟩, _, _⟩ := ht
  unfold absI at hk
  apply List.ext_getElem?
  intro j
  by_cases hj : j < 13
  · rw [rowN_get _ _ hj, List.getElem?_set, netF_snoc, rowN_get _ _ hj, rowN_len]
    by_cases e : k = j
    · subst e
      rw [if_pos rfl, if_pos hj, hy]
      unfold con1
      congr 2
      split
      · rw [if_pos (by omega)]
      · rw [if_neg (by omega), if_pos (by omega)]
    · rw [if_neg e]
      unfold con1
      rw [if_neg (by omega), if_neg (by omega)]
      simp
  · rw [List.getElem?_eq_none (by rw [List.length_set, rowN_len]; omega), List.getElem?_eq_none (by rw [rowN_len]; omega)]
theorem net_loop {τ : Type} {b : Nat → Term → Int × List Int → Option (Lo (Int × List Int) τ)} (ts : List Term) (bound : Int) (hts : ∀ t ∈ ts, okLit t) (hl : ts.length ≤ 100) (hb0 : -100000 ≤ bound ∧ bound ≤ 100000)
    (hb : ∀ i t bd (xs : List Term), okLit t → xs.length ≤ 100 → (∀ t ∈ xs, okLit t) → -200000 ≤ bd ∧ bd ≤ 200000 → b i t (bd, rowN xs) = some (.cont (bd - (if t.lit < 0 then t.coef else 0), rowN (xs ++ [t])))) :
    rangeL b ts 0 (bound, rowN []) = some (.nx (bound - negS ts, rowN ts)) := by
  have := range_to (b := b) (fun i => (bound - negS (ts.take i), rowN (ts.take i))) ts (by
    intro i t ht
    have ho := hts t (List.mem_of_getElem? ht)
    have hoo : ∀ u ∈ ts.take i, okLit u := fun u hu => hts u (List.mem_of_mem_take hu)
    have hlen : (ts.take i).length ≤ 100 := by simp; omega
    have hn := negS_bound hoo hlen
    rw [hb i t _ _ ho hlen hoo (by omega), take_snoc ht, negS_snoc]
    congr 3
    omega)
  have e0 : (bound, rowN []) = (bound - negS (ts.take 0), rowN (ts.take 0)) := by
    have : negS (ts.take 0) = 0 := rfl
    rw [this]; simp
  rw [e0, this, List.take_length]
theorem rowN_nil : List.replicate 13 (0 : Int) = rowN [] := by decide
theorem i_net_round (i : Nat) (t : Term) (bd : Int) (xs : List Term) (ho : okLit t) (hl : xs.length ≤ 100) (hxs : ∀ t ∈ xs, okLit t) (hb : -200000 ≤ bd ∧ bd ≤ 200000) :
    i_normal_b1 i t (bd, rowN xs) = some (.cont (bd - (if t.lit < 0 then t.coef else 0), rowN (xs ++ [t]))) := by
  have ho' := ho
  obtain ⟨⟨h0, h1, h2⟩, h3, h4⟩ := ho
  rw [i_normal_b1]
  by_cases h : t.lit > 0
  · obtain ⟨k, hk⟩ : ∃ k : Nat, t.lit = (k : Int) := ⟨t.lit.toNat, by omega⟩
    have hn := netF_bound hxs hl (k : Int)
    rw [if_neg (by simp; omega), hk, idx_nat, rowN_get _ _ (by omega), Option.bind_some, Int.toNat_natCast, i64_id (by omega) (by omega), if_neg (by omega),
      row_set xs t ho' k (by unfold absI; omega) (netF xs (k : Int) + t.coef) (by rw [if_pos h])]
    simp
  · obtain ⟨k, hk⟩ : ∃ k : Nat, -t.lit = (k : Int) := ⟨(-t.lit).toNat, by omega⟩
    have hn := netF_bound hxs hl (k : Int)
    rw [if_pos (by simp; omega), i64_id (n := -t.lit) (by omega) (by omega), hk, idx_nat, rowN_get _ _ (by omega), Option.bind_some, Int.toNat_natCast, i64_id (n := bd - t.coef) (by omega) (by omega), i64_id (by omega) (by omega), if_pos (by omega),
      row_set xs t ho' k (by unfold absI; omega) (netF xs (k : Int) - t.coef) (by rw [if_neg h]; omega)]
    rfl
def piece (f : Int → Int) (k : Int) : List Term := if f k > 0 then [⟨f k, k⟩] else if f k < 0 then [⟨-f k, -k⟩] else []
def normT (f : Int → Int) : Nat → List Term
  | 0 => []
  | n + 1 => normT f n ++ piece f ((n + 1 : Nat) : Int)
def minS (f : Int → Int) : Nat → Int
  | 0 => 0
  | n + 1 => minS f n + min (f ((n + 1 : Nat) : Int)) 0
def normC (ts : List Term) (bound : Int) : Con × Bool := validC ⟨normT (netF ts) 12, max 0 (bound - negS ts - minS (netF ts) 12)⟩
theorem normT_len (f : Int → Int) : ∀ n, (normT f n).length ≤ n
  | 0 => Nat.le_refl _
  | n + 1 => by
    have := normT_len f n
    rw [normT, List.length_append]
    have : (piece f ((n + 1 : Nat) : Int)).length ≤ 1 := by
      unfold piece
      split
      · simp
      · split <;> simp
    omega
theorem minS_bound {f : Int → Int} (h : ∀ k, -100000 ≤ f k ∧ f k ≤ 100000) : ∀ n : Nat, -(100000 * (n : Int)) ≤ minS f n ∧ minS f n ≤ 0
  | 0 => by simp [minS]
  | n + 1 => by
    have h1 := minS_bound h n
    have h2 := h ((n + 1 : Nat) : Int)
    rw [minS]
    omega
theorem piece_round {f : Int → Int} (hf : ∀ k, -100000 ≤ f k ∧ f k ≤ 100000) (n : Nat) (hn : n < 12) (bd : Int) (hb : -10000000 ≤ bd ∧ bd ≤ 10000000) :
    (bd - min (f ((n + 1 : Nat) : Int)) 0, normT f (n + 1)) = (if f ((n + 1 : Nat) : Int) > 0 then (bd, normT f n ++ [⟨f ((n + 1 : Nat) : Int), ((n + 1 : Nat) : Int)⟩]) else if f ((n + 1 : Nat) : Int) < 0 then (bd - f ((n + 1 : Nat) : Int), normT f n ++ [⟨-f ((n + 1 : Nat) : Int), -((n + 1 : Nat) : Int)⟩]) else (bd, normT f n)) := by
  rw [normT]
  unfold piece
  split
  · rw [show min (f ((n + 1 : Nat) : Int)) 0 = 0 by omega]; simp
  · split
    · rw [show min (f ((n + 1 : Nat) : Int)) 0 = f ((n + 1 : Nat) : Int) by omega]
    · rw [show min (f ((n + 1 : Nat) : Int)) 0 = 0 by omega]; simp
theorem netF_zero {ts : List Term} (hts : ∀ t ∈ ts, okLit t) : netF ts 0 = 0 :=
  sumR_zero ts fun t ht => by
    have := (hts t ht).1.1
    unfold con1
    rw [if_neg (by omega), if_neg (by omega)]
theorem i_norm {ts : List Term} (hts : ∀ t ∈ ts, okLit t) (hl : ts.length ≤ 100) (bound : Int) (hb : -100000 ≤ bound ∧ bound ≤ 100000) : i_normal ts bound = some (normC ts bound) := by
  unfold i_normal
  have hns := negS_bound hts hl
  rw [rowN_nil, net_loop (b := i_normal_b1) ts bound hts hl hb i_net_round, Option.bind_some]
  simp only
  have e : cntF 0 13 = some 13 := cntF_nat (n := 13) (by omega)
  have hf := fun k => netF_bound hts hl k
  rw [e, Option.bind_some]
  generalize hbd : bound - negS ts = bd
  have hbd2 : -300000 ≤ bd ∧ bd ≤ 300000 := by omega
  have r0 : i_normal_b2 (rowN ts) 0 (bd, []) = some (.cont (bd, [])) := by
    rw [i_normal_b2, idx_nat, rowN_get _ _ (by omega), Option.bind_some]
    have z : netF ts ((0 : Nat) : Int) = 0 := netF_zero hts
    rw [z]
    rfl
  have := count_to (b := i_normal_b2 (rowN ts)) (fun i => (bd - minS (netF ts) (i - 1), normT (netF ts) (i - 1))) 12 1 (by
    intro i h1 h2
    obtain ⟨n, rfl⟩ : ∃ n, i = n + 1 := ⟨i - 1, by omega⟩
    simp only [Nat.add_sub_cancel]
    have hm := minS_bound hf n
    have hfn := hf ((n + 1 : Nat) : Int)
    have hnl := normT_len (netF ts) n
    have e2 : (bd - minS (netF ts) (n + 1), normT (netF ts) (n + 1)) = (bd - minS (netF ts) n - min (netF ts ((n + 1 : Nat) : Int)) 0, normT (netF ts) (n + 1)) := by rw [minS]; congr 1; omega
    rw [e2, piece_round hf n (by omega) _ (by omega), i_normal_b2, idx_nat, rowN_get _ _ (by omega), Option.bind_some]
    by_cases c1 : netF ts ((n + 1 : Nat) : Int) > 0
    · simp only [c1, decide_true, if_true]
      rw [app_le (by simp; omega)]
      rfl
    · by_cases c2 : netF ts ((n + 1 : Nat) : Int) < 0
      · simp only [c1, c2, decide_true, decide_false, if_true, Bool.false_eq_true, if_false]
        rw [app_le (by simp; omega), i64_id (n := -netF ts ((n + 1 : Nat) : Int)) (by omega) (by omega), i64_id (n := -((n + 1 : Nat) : Int)) (by omega) (by omega), Option.bind_some, i64_id (by omega) (by omega)]
        rfl
      · simp only [c1, c2, decide_false, Bool.false_eq_true, if_false, Option.bind_some])
  have e0 : (bd, ([] : List Term)) = (bd - minS (netF ts) (1 - 1), normT (netF ts) (1 - 1)) := by simp [minS, normT]
  have e13 : countL (i_normal_b2 (rowN ts)) 13 0 (bd, []) = some (.nx (bd - minS (netF ts) 12, normT (netF ts) 12)) := by
    show (i_normal_b2 (rowN ts) 0 (bd, [])).bind _ = _
    rw [r0]
    show countL (i_normal_b2 (rowN ts)) 12 1 (bd, []) = _
    rw [e0, this]
  rw [e13, Option.bind_some]
  simp only
  rw [i_valid2, Option.bind_some]
  unfold normC
  rw [hbd]
def addC (a b : Con) : Con × Bool := if okCon a && okCon b then normC (a.terms ++ b.terms) (a.bound + b.bound) else (zeroC, false)
theorem okT_okLit {t : Term} (h : okT t = true) : okLit t := by
  have := okT_lit h
  exact ⟨okT_lit12 h, by omega, by omega⟩
theorem add_parts {a b : Con} (ha : okCon a = true) (hb : okCon b = true) : (∀ t ∈ a.terms ++ b.terms, okLit t) ∧ (a.terms ++ b.terms).length ≤ 24 := by
  obtain ⟨_, a2, a3, _⟩ := okCon_parts ha
  obtain ⟨_, b2, b3, _⟩ := okCon_parts hb
  refine ⟨fun t ht => ?_, by simp; omega⟩
  rcases List.mem_append.1 ht with h | h
  · exact okT_okLit (a3 t h)
  · exact okT_okLit (b3 t h)
theorem i_concat (xs ys : List Term) (h1 : xs.length ≤ 1000) (h2 : ys.length ≤ 1000) : slices_Concat_implTerm [xs, ys] = some (xs ++ ys) := by
  unfold slices_Concat_implTerm
  have hb : ∀ (i : Nat) (x : List Term) (s : Int), 0 ≤ s → s ≤ 1000000 → x.length ≤ 1000 → slices_Concat_implTerm_b1 i x s = some (.cont (s + (x.length : Int))) := fun i x s h1 h2 h3 => by
    rw [slices_Concat_implTerm_b1, i64_id (by omega) (by omega), if_neg (by simp; omega)]
    rfl
  have e1 : rangeL slices_Concat_implTerm_b1 [xs, ys] 0 0 = some (.nx ((xs.length : Int) + ys.length)) := by
    show (slices_Concat_implTerm_b1 0 xs 0).bind _ = _
    rw [hb 0 xs 0 (by omega) (by omega) h1]
    show (slices_Concat_implTerm_b1 1 ys (0 + (xs.length : Int))).bind _ = _
    rw [hb 1 ys _ (by omega) (by omega) h2]
    show some (Jn.nx (0 + (xs.length : Int) + (ys.length : Int))) = _
    rw [Int.zero_add]
  have e2 : slices_Concat_implTerm_i2 ((xs.length : Int) + ys.length) = some [] := by
    unfold slices_Concat_implTerm_i2
    have e0 : i64 (0 - 0) = 0 := i64_id (by omega) (by omega)
    rw [if_neg (by simp; omega), e0, Int.sub_zero, i64_id (by omega) (by omega)]
    simp only [Option.bind_some]
    by_cases h : (xs.length : Int) + ys.length > 0
    · rw [if_pos (decide_eq_true h)]
      have := mkN_le (n := xs.length + ys.length) ({ coef := 0, lit := 0 } : Term) (by omega)
      rw [show ((xs.length + ys.length : Nat) : Int) = (xs.length : Int) + ys.length by omega] at this
      rw [this, Option.bind_some]
      have := sl_pre (xs := List.replicate (xs.length + ys.length) ({ coef := 0, lit := 0 } : Term)) (i := 0) (by omega)
      rw [show ((0 : Nat) : Int) = 0 from rfl] at this
      rw [this]
      rfl
    · rw [if_neg (by simpa using h)]
      rfl
  rw [e1, Option.bind_some]
  simp only
  rw [e2, Option.bind_some]
  simp only [rangeL, slices_Concat_implTerm_b3]
  rw [app_le (by simp; omega)]
  simp only [Option.bind_some, List.nil_append]
  rw [app_le (by omega)]
  rfl
theorem i_add (a b : Con) : i_AddConstraints a b = some (addC a b) := by
  unfold i_AddConstraints addC
  rw [i_valid a, Option.bind_some]
  cases h1 : okCon a with
  | false => rfl
  | true =>
    rw [i_valid b]
    cases h2 : okCon b with
    | false => rfl
    | true =>
      obtain ⟨g1, g2⟩ := add_parts h1 h2
      obtain ⟨_, a2, a3, a4, a5⟩ := okCon_parts h1
      obtain ⟨_, b2, b3, b4, b5⟩ := okCon_parts h2
      simp only [Bool.not_true, Bool.false_eq_true, if_false, Option.bind_some, Bool.and_self, if_true]
      rw [i_concat _ _ (by omega) (by omega), Option.bind_some, i64_id (by omega) (by omega), i_norm g1 (by omega) _ (by omega)]
      generalize normC (a.terms ++ b.terms) (a.bound + b.bound) = z
      rfl
end Go.L
namespace Go.L
open Go Go.E
set_option linter.unusedVariables false
set_option linter.unusedSimpArgs false
set_option maxRecDepth 100000
theorem equal_list {α : Type} [DecidableEq α] (s1 s2 : List α) {b : Nat → α → Unit → Option (Lo Unit Bool)} (hb : ∀ (i : Nat) x, b i x () = (idx s2 (i : Int)).bind fun y => if decide (x = y) then some (.cont ()) else some (.out false)) (hl : s1.length = s2.length) :
    rangeL b s1 0 () = some (if decide (s1 = s2) then .nx () else .out false) := by
  rw [range_allI (fun i x => decide (s2[i]? = some x)) false s1 fun i x hx => by
    have hi := (List.getElem?_eq_some_iff.1 hx).1
    have h2 : i < s2.length := by omega
    rw [hb, idx_nat, List.getElem?_eq_getElem h2, Option.bind_some]
    by_cases h : x = s2[i]
    · simp [h]
    · simp [h, Ne.symm h]]
  congr 2
  have : allFrom (fun i x => decide (s2[i]? = some x)) s1 0 = decide (s1 = s2) := by
    rw [Bool.eq_iff_iff, allFrom_iff]
    simp only [decide_eq_true_eq, Nat.zero_add]
    constructor
    · intro h
      apply List.ext_getElem?
      intro i
      cases h1 : s1[i]? with
      | some x => rw [h i x h1]
      | none => rw [List.getElem?_eq_none_iff] at h1; rw [List.getElem?_eq_none (by omega)]
    · intro h i x hx
      rw [← h]; exact hx
  rw [this]
theorem i_equal (s1 s2 : List Term) : slices_Equal_implTerm s1 s2 = some (decide (s1 = s2)) := by
  unfold slices_Equal_implTerm
  by_cases hl : s1.length = s2.length
  · rw [if_neg (by simp [hl]), equal_list s1 s2 (b := slices_Equal_implTerm_b1 s2) (fun i x => by
      rw [slices_Equal_implTerm_b1]
      congr 1
      funext y
      by_cases h : x = y <;> simp [h]) hl]
    by_cases h : s1 = s2 <;> simp [h]
  · rw [if_pos (by simp; omega), decide_eq_false (by intro h; rw [h] at hl; exact hl rfl)]
theorem i_same (a b : Con) : i_ConstraintSame a b = some (decide (a = b)) := by
  unfold i_ConstraintSame
  rw [i_equal]
  obtain ⟨t1, b1⟩ := a
  obtain ⟨t2, b2⟩ := b
  by_cases h1 : b1 = b2
  · by_cases h2 : t1 = t2 <;> simp [h1, h2]
  · simp [h1]
end Go.L
namespace Go.L
open Go Go.E
set_option linter.unusedVariables false
set_option linter.unusedSimpArgs false
set_option maxRecDepth 100000
def zeroC' : Con := ⟨[], 0⟩
def seenAt (ls : List Int) (v : Int) : Int := if ls.contains v then v else if ls.contains (-v) then -v else 0
def clT (ls : List Int) : Nat → List Term
  | 0 => []
  | n + 1 => clT ls n ++ (if seenAt ls ((n + 1 : Nat) : Int) ≠ 0 then [⟨1, seenAt ls ((n + 1 : Nat) : Int)⟩] else [])
def clC (ls : List Int) : Con := ⟨clT ls 12, 1⟩
def litOk (l : Int) : Bool := l != 0 && (decide (-12 ≤ l) && decide (l ≤ 12))
theorem litOk_iff {l : Int} : litOk l = true ↔ lit12 l := by unfold litOk lit12; simp
def clOk (ls : List Int) : Bool := ls.all fun l => litOk l && !ls.contains (-l)
def clauseP (ls : List Int) : Con × Bool := if ls.length ≤ 40 && clOk ls then (clC ls, true) else (zeroC', false)
theorem clOk_iff {ls : List Int} : clOk ls = true ↔ ∀ l ∈ ls, lit12 l ∧ ¬ (-l) ∈ ls := by
  unfold clOk
  rw [List.all_eq_true]
  constructor
  · intro h l hl
    have := h l hl
    rw [Bool.and_eq_true, litOk_iff] at this
    exact ⟨this.1, by simpa using this.2⟩
  · intro h l hl
    rw [Bool.and_eq_true, litOk_iff]
    exact ⟨(h l hl).1, by simpa using (h l hl).2⟩
def seenR (ls : List Int) : List Int := (List.range 13).map fun (k : Nat) => seenAt ls (k : Int)
theorem seenR_get (ls : List Int) (k : Nat) (h : k < 13) : (seenR ls)[k]? = some (seenAt ls (k : Int)) := by
  unfold seenR
  rw [List.getElem?_map, List.getElem?_range h]
  rfl
theorem seenR_len (ls : List Int) : (seenR ls).length = 13 := by simp [seenR]
theorem seenAt_snoc {ls : List Int} {l : Int} (hl : lit12 l) (h : ¬ (-l) ∈ ls) (h0 : ∀ x ∈ ls, lit12 x) (k : Nat) (hk : k < 13) : seenAt (ls ++ [l]) (k : Int) = if (k : Int) = absI l then l else seenAt ls (k : Int) := by
  obtain ⟨a0, a1, a2⟩ := hl
  unfold seenAt absI
  simp only [List.contains_eq_mem, List.mem_append, List.mem_singleton, decide_eq_true_eq]
  by_cases e : (k : Int) = max l (-l)
  · rw [if_pos e]
    by_cases hp : l > 0
    · have ek : (k : Int) = l := by omega
      rw [if_pos (.inr ek), ek]
    · have ek : (k : Int) = -l := by omega
      have n1 : ¬ ((k : Int) ∈ ls ∨ (k : Int) = l) := by
        rintro (h1 | h1)
        · rw [ek] at h1; exact h h1
        · omega
      rw [if_neg n1, if_pos (.inr (by omega))]
      omega
  · rw [if_neg e]
    have n1 : ((k : Int) ∈ ls ∨ (k : Int) = l) ↔ (k : Int) ∈ ls := ⟨fun h => h.elim id fun h => by exfalso; omega, .inl⟩
    have n2 : (-(k : Int) ∈ ls ∨ -(k : Int) = l) ↔ -(k : Int) ∈ ls := ⟨fun h => h.elim id fun h => by exfalso; omega, .inl⟩
    simp only [n1, n2]
theorem mk13 : mkN 13 (0 : Int) = some (seenR []) := by
  have : List.replicate 13 (0 : Int) = seenR [] := by decide
  rw [← this]; exact mkN_le (n := 13) (0 : Int) (by omega)
theorem take_snoc1 {α : Type} {xs : List α} {i : Nat} {x : α} (h : xs[i]? = some x) : xs.take (i + 1) = xs.take i ++ [x] := by rw [List.take_add_one, h]; rfl
theorem clT_len (ls : List Int) : ∀ n, (clT ls n).length ≤ n
  | 0 => Nat.le_refl _
  | n + 1 => by
    have := clT_len ls n
    rw [clT, List.length_append]
    split <;> simp <;> omega
theorem s_abs' {l : Int} (h : lit12 l) : s_l1Abs l = some (absI l) := s_abs l (by have := h.2.1; omega) (by have := h.2.2; omega)
theorem s_clause (ls : List Int) : s_ClauseOf ls = some (clauseP ls) := by
  unfold s_ClauseOf clauseP
  rw [mk13, Option.bind_some]
  by_cases h40 : ls.length ≤ 40
  · rw [if_neg (by simp; omega)]
    have hd : decide (ls.length ≤ 40) = true := decide_eq_true h40
    rw [hd, Bool.true_and]
    obtain ⟨j, hj, hQ⟩ := range_inv (b := s_ClauseOf_b1) ls (fun i s => s = seenR (ls.take i) ∧ clOk (ls.take i) = true)
      (fun j => match j with | .nx s => s = seenR ls ∧ clOk ls = true | .out t => t = (zeroC', false) ∧ clOk ls = false)
      (fun s h => by simpa using h) (by
        rintro i l s hl ⟨rfl, hok⟩
        have hi := (List.getElem?_eq_some_iff.1 hl).1
        have hml := List.mem_of_getElem? hl
        rw [s_ClauseOf_b1]
        unfold s_l1Lit
        cases hlo : litOk l with
        | false =>
          refine ⟨.out (zeroC', false), ?_, rfl, ?_⟩
          · have : (((l != 0) && (decide (l ≥ (-12)))) && (decide (l ≤ 12))) = false := by rw [← hlo]; unfold litOk; rw [Bool.and_assoc]
            rw [this]; rfl
          · cases hc : clOk ls with
            | false => rfl
            | true => rw [litOk_iff.2 (clOk_iff.1 hc l hml).1] at hlo; cases hlo
        | true =>
          have h12 := litOk_iff.1 hlo
          obtain ⟨a0, a1, a2⟩ := h12
          have : (((l != 0) && (decide (l ≥ (-12)))) && (decide (l ≤ 12))) = true := by rw [← hlo]; unfold litOk; rw [Bool.and_assoc]
          rw [this]
          simp only [Option.bind_some, Bool.not_true, Bool.false_eq_true, if_false]
          obtain ⟨k, hk⟩ : ∃ k : Nat, absI l = (k : Int) := ⟨(absI l).toNat, by unfold absI; omega⟩
          have hk13 : k < 13 := by unfold absI at hk; omega
          rw [s_abs' ⟨a0, a1, a2⟩, Option.bind_some, hk, idx_nat, seenR_get _ _ hk13, Option.bind_some, i64_id (by omega) (by omega)]
          have hnn : ∀ x ∈ ls.take i, lit12 x := fun x hx => (clOk_iff.1 hok x hx).1
          by_cases hc : (-l) ∈ ls.take i
          · refine ⟨.out (zeroC', false), ?_, rfl, ?_⟩
            · have hs : seenAt (ls.take i) (k : Int) = -l := by
                have hnl : ¬ l ∈ ls.take i := fun h => by
                  have := (clOk_iff.1 hok (-l) hc).2
                  rw [Int.neg_neg] at this
                  exact this h
                unfold seenAt
                unfold absI at hk
                simp only [List.contains_eq_mem, decide_eq_true_eq]
                by_cases hp : l > 0
                · have e1 : (k : Int) = l := by omega
                  rw [e1, if_neg hnl, if_pos hc]
                · have e1 : (k : Int) = -l := by omega
                  rw [e1, if_pos hc]
              rw [hs, beq_self_eq_true]
              rfl
            · cases hx : clOk ls with
              | false => rfl
              | true => exact absurd (List.mem_of_mem_take hc) (clOk_iff.1 hx l hml).2
          · have hs : (seenAt (ls.take i) (k : Int) == -l) = false := by
              unfold seenAt
              unfold absI at hk
              simp only [List.contains_eq_mem, decide_eq_true_eq]
              rw [beq_eq_false_iff_ne]
              intro e
              split at e
              · rename_i hm; rw [e] at hm; exact hc hm
              · split at e
                · rename_i hm; rw [e] at hm; exact hc hm
                · omega
            rw [hs]
            refine ⟨.cont (seenR (ls.take (i + 1))), ?_, rfl, ?_⟩
            · simp only [Bool.false_eq_true, if_false, Int.toNat_natCast]
              congr 2
              rw [take_snoc1 hl]
              apply List.ext_getElem?
              intro q
              by_cases hq : q < 13
              · rw [seenR_get _ _ hq, List.getElem?_set, seenAt_snoc ⟨a0, a1, a2⟩ hc hnn q hq, seenR_len, seenR_get _ _ hq]
                by_cases e : k = q
                · subst e; rw [if_pos rfl, if_pos hk13, hk, if_pos rfl]
                · rw [if_neg e, hk, if_neg (by omega)]
              · rw [List.getElem?_eq_none (by rw [List.length_set, seenR_len]; omega), List.getElem?_eq_none (by rw [seenR_len]; omega)]
            · rw [take_snoc1 hl, clOk_iff]
              intro x hx
              rcases List.mem_append.1 hx with hx | hx
              · have := clOk_iff.1 hok x hx
                refine ⟨this.1, fun hm => ?_⟩
                rcases List.mem_append.1 hm with hm | hm
                · exact this.2 hm
                · rw [List.mem_singleton] at hm
                  apply hc
                  rw [← hm, Int.neg_neg]; exact hx
              · rw [List.mem_singleton] at hx
                subst hx
                refine ⟨⟨a0, a1, a2⟩, fun hm => ?_⟩
                rcases List.mem_append.1 hm with hm | hm
                · exact hc hm
                · rw [List.mem_singleton] at hm; omega) (seenR []) ⟨rfl, rfl⟩
    rw [hj, Option.bind_some]
    cases j with
    | out t => obtain ⟨rfl, h⟩ := hQ; rw [h]; rfl
    | nx s =>
      obtain ⟨rfl, h⟩ := hQ
      rw [h]
      simp only [if_true]
      have e : cntF 1 (12 + 1) = some 12 := by rw [cntF_of (s := 1) (by omega) (by omega)]; congr 1
      rw [e, Option.bind_some]
      have := count_to (b := s_ClauseOf_b2 (seenR ls)) (fun i => clT ls (i - 1)) 12 1 (by
        intro i h1 h2
        obtain ⟨n, rfl⟩ : ∃ n, i = n + 1 := ⟨i - 1, by omega⟩
        have hl := clT_len ls n
        rw [s_ClauseOf_b2, idx_nat, seenR_get _ _ (by omega), Option.bind_some]
        simp only [Nat.add_sub_cancel, clT]
        by_cases hz : seenAt ls ((n + 1 : Nat) : Int) = 0
        · have hz' : (seenAt ls ((n + 1 : Nat) : Int) != 0) = false := by simpa using hz
          rw [hz', if_neg (by simp), if_neg (by simpa using hz), List.append_nil]
          rfl
        · have hz' : (seenAt ls ((n + 1 : Nat) : Int) != 0) = true := by simpa using hz
          rw [hz', if_pos rfl, app_le (by simp; omega), if_pos hz]
          rfl)
      have e0 : ([] : List Term) = clT ls (1 - 1) := rfl
      rw [e0, this]
      rfl
  · rw [if_pos (by simp; omega), decide_eq_false h40]
    rfl
end Go.L
namespace Go.L
open Go Go.E
set_option linter.unusedVariables false
set_option linter.unusedSimpArgs false
set_option maxRecDepth 100000
def leA (a b : Int) : Prop := absI a ≤ absI b
theorem i_cmp {a b : Int} (ha : lit12 a) (hb : lit12 b) : i_ClauseOf_1 a b = some (absI a - absI b) := by
  obtain ⟨_, a1, a2⟩ := ha
  obtain ⟨_, b1, b2⟩ := hb
  unfold i_ClauseOf_1 i_variableOf
  rw [i64_id (n := -a) (by omega) (by omega), Option.bind_some, i64_id (n := -b) (by omega) (by omega), Option.bind_some]
  show some (i64 (absI a - absI b)) = _
  rw [i64_id (by unfold absI; omega) (by unfold absI; omega)]
theorem set_mid {α : Type} (pre : List α) (y x z : α) (r : List α) (k : Nat) (hk : k = pre.length) : (pre ++ x :: r).set k y = pre ++ y :: r := by
  subst hk
  rw [List.set_append_right _ _ (Nat.le_refl _), Nat.sub_self, List.set_cons_zero]
theorem ins_loop (a : Int) (ha : a = 0) (x : Int) (hx : lit12 x) (rest : List Int) : ∀ (n : Nat) (pre mid : List Int) (k : Nat), pre.length = n → n < k → pre.length ≤ 100 → (∀ y ∈ pre, lit12 y) →
    ∃ p q, p ++ q = pre ∧ whileL (slices_insertionSortCmpFunc_int_b2 a i_ClauseOf_1) k (pre ++ x :: (mid ++ rest), (n : Int)) = some (.nx (p ++ x :: (q ++ mid ++ rest), (p.length : Int))) ∧ (∀ y ∈ q, absI x < absI y) ∧ (∀ y, p.getLast? = some y → absI y ≤ absI x)
  | 0, pre, mid, k, hn, hk, h1, h2 => by
    obtain ⟨k, rfl⟩ : ∃ k', k = k' + 1 := ⟨k - 1, by omega⟩
    have hp : pre = [] := List.length_eq_zero_iff.1 hn
    subst hp ha
    refine ⟨[], [], rfl, ?_, by simp, by simp⟩
    show (slices_insertionSortCmpFunc_int_b2 0 i_ClauseOf_1 _).bind _ = _
    rw [slices_insertionSortCmpFunc_int_b2]
    simp
  | n + 1, pre, mid, k, hn, hk, h1, h2 => by
    obtain ⟨k, rfl⟩ : ∃ k', k = k' + 1 := ⟨k - 1, by omega⟩
    subst ha
    obtain ⟨pre', y, rfl⟩ : ∃ p y, pre = p ++ [y] := by
      refine ⟨pre.dropLast, pre.getLast (by intro h; subst h; simp at hn), ?_⟩
      exact (List.dropLast_concat_getLast _).symm
    have hl : pre'.length = n := by simpa using hn
    have hy := h2 y (by simp)
    have i1 : idx (pre' ++ [y] ++ x :: (mid ++ rest)) ((n + 1 : Nat) : Int) = some x := by
      rw [idx_nat, List.getElem?_append_right (by simp; omega)]
      simp [hl]
    have i2 : idx (pre' ++ [y] ++ x :: (mid ++ rest)) (i64 (((n + 1 : Nat) : Int) - 1)) = some y := by
      rw [i64_id (by omega) (by omega), show ((n + 1 : Nat) : Int) - 1 = (n : Int) by omega, idx_nat, List.append_assoc, List.getElem?_append_right (by omega), hl, Nat.sub_self]
      rfl
    have ec : (if decide (((n + 1 : Nat) : Int) > 0) then ((idx (pre' ++ [y] ++ x :: (mid ++ rest)) ((n + 1 : Nat) : Int)).bind fun x14 => (idx (pre' ++ [y] ++ x :: (mid ++ rest)) (i64 (((n + 1 : Nat) : Int) - 1))).bind fun x19 => (i_ClauseOf_1 x14 x19).bind fun x22 => some (decide (x22 < 0))) else some false) = some (decide (absI x < absI y)) := by
      rw [if_pos (decide_eq_true (by omega)), i1, Option.bind_some, i2, Option.bind_some, i_cmp hx hy, Option.bind_some]
      congr 1
      by_cases h : absI x < absI y
      · rw [decide_eq_true h, decide_eq_true (by omega)]
      · rw [decide_eq_false h, decide_eq_false (by omega)]
    by_cases hc : absI x < absI y
    · obtain ⟨p, q, e1, e2, e3, e4⟩ := ins_loop 0 rfl x hx rest n pre' (y :: mid) k hl (by omega) (by simp at h1; omega) (fun z hz => h2 z (by simp [hz]))
      refine ⟨p, q ++ [y], by rw [← e1]; simp, ?_, ?_, e4⟩
      · show (slices_insertionSortCmpFunc_int_b2 0 i_ClauseOf_1 _).bind _ = _
        rw [slices_insertionSortCmpFunc_int_b2, ec, Option.bind_some, decide_eq_true hc, if_pos rfl, i2, Option.bind_some, i1, Option.bind_some]
        have s1 : (pre' ++ [y] ++ x :: (mid ++ rest)).set (Int.toNat ((n + 1 : Nat) : Int)) y = pre' ++ [y] ++ y :: (mid ++ rest) := set_mid _ y x x _ _ (by simp; omega)
        have e5 : i64 (((n + 1 : Nat) : Int) - 1) = (n : Int) := by rw [i64_id (by omega) (by omega)]; omega
        rw [s1, e5]
        have i3 : idx (pre' ++ [y] ++ y :: (mid ++ rest)) (n : Int) = some y := by
          rw [idx_nat, List.append_assoc, List.getElem?_append_right (by omega), hl, Nat.sub_self]
          rfl
        rw [i3, Option.bind_some]
        have s2 : (pre' ++ [y] ++ y :: (mid ++ rest)).set (Int.toNat (n : Int)) x = pre' ++ x :: (y :: (mid ++ rest)) := by
          rw [List.append_assoc]
          exact set_mid pre' x y y _ _ (by simp; omega)
        rw [s2]
        show whileL (slices_insertionSortCmpFunc_int_b2 0 i_ClauseOf_1) k (pre' ++ x :: (y :: mid ++ rest), (n : Int)) = _
        rw [e2]
        simp
      · intro z hz
        rcases List.mem_append.1 hz with hz | hz
        · exact e3 z hz
        · rw [List.mem_singleton] at hz; subst hz; exact hc
    · refine ⟨pre' ++ [y], [], by simp, ?_, by simp, ?_⟩
      · show (slices_insertionSortCmpFunc_int_b2 0 i_ClauseOf_1 _).bind _ = _
        rw [slices_insertionSortCmpFunc_int_b2, ec, Option.bind_some, decide_eq_false hc]
        simp [hl]
      · intro z hz
        simp at hz
        subst hz
        omega
def sortedA (xs : List Int) : Prop := xs.Pairwise leA
theorem ins_sorted {p q : List Int} {x : Int} (h : sortedA (p ++ q)) (h1 : ∀ y ∈ q, absI x < absI y) (h2 : ∀ y, p.getLast? = some y → absI y ≤ absI x) : sortedA (p ++ x :: q) := by
  unfold sortedA at *
  rw [List.pairwise_append] at h
  obtain ⟨hp, hq, hpq⟩ := h
  have hpx : ∀ y ∈ p, leA y x := by
    intro y hy
    cases hlast : p.getLast? with
    | none => rw [List.getLast?_eq_none_iff] at hlast; subst hlast; cases hy
    | some z =>
      have hz := h2 z hlast
      have : leA y z := by
        obtain ⟨p', rfl⟩ : ∃ p', p = p' ++ [z] := by
          rw [List.getLast?_eq_some_iff] at hlast
          exact hlast
        rw [List.pairwise_append] at hp
        rcases List.mem_append.1 hy with hy | hy
        · exact hp.2.2 y hy z (by simp)
        · rw [List.mem_singleton] at hy; subst hy; exact Int.le_refl _
      exact Int.le_trans this hz
  rw [List.pairwise_append]
  refine ⟨hp, ?_, ?_⟩
  · rw [List.pairwise_cons]
    exact ⟨fun y hy => Int.le_of_lt (h1 y hy), hq⟩
  · intro y hy z hz
    rcases List.mem_cons.1 hz with rfl | hz
    · exact hpx y hy
    · exact hpq y hy z hz
theorem sort_loop (fu : Nat) (hf : FU ≤ fu) (ls : List Int) (hl : ∀ l ∈ ls, lit12 l) (h12 : ls.length ≤ 12) (h1 : 1 ≤ ls.length) : ∃ r, slices_insertionSortCmpFunc_int fu ls 0 (ls.length : Int) i_ClauseOf_1 = some r ∧ r.Perm ls ∧ sortedA r := by
  unfold FU at hf
  unfold slices_insertionSortCmpFunc_int
  obtain ⟨j, hj, hQ⟩ := while_inv (b := slices_insertionSortCmpFunc_int_b1 fu 0 (ls.length : Int) i_ClauseOf_1)
    (fun n (s : List Int × Int) => ∃ i : Nat, s.2 = (i : Int) ∧ i + n = ls.length ∧ ∃ P, s.1 = P ++ ls.drop i ∧ P.Perm (ls.take i) ∧ sortedA P)
    (fun j => ∃ r k, j = .nx (r, k) ∧ r.Perm ls ∧ sortedA r) (fun n s hI => by
      obtain ⟨d, k⟩ := s
      obtain ⟨i, hk, hi, P, hd, hp, hs⟩ := hI
      simp only at hk hd
      subst hk hd
      cases n with
      | zero =>
        refine ⟨_, by rw [slices_insertionSortCmpFunc_int_b1, if_neg (by simp; omega)], ?_⟩
        have : i = ls.length := by omega
        subst this
        rw [List.take_length] at hp
        exact ⟨_, _, rfl, by simpa using hp, by simpa using hs⟩
      | succ n =>
        have hil : i < ls.length := by omega
        have hdr : ls.drop i = ls[i] :: ls.drop (i + 1) := List.drop_eq_getElem_cons hil
        have hpl : P.length = i := by rw [hp.length_eq]; simp; omega
        have hP : ∀ y ∈ P, lit12 y := fun y hy => hl y (List.mem_of_mem_take (hp.mem_iff.1 hy))
        obtain ⟨p, q, e1, e2, e3, e4⟩ := ins_loop 0 rfl ls[i] (hl _ (List.getElem_mem hil)) (ls.drop (i + 1)) i P [] fu hpl (by omega) (by omega) hP
        refine ⟨.cont (p ++ ls[i] :: (q ++ [] ++ ls.drop (i + 1)), ((i + 1 : Nat) : Int)), ?_, n, by omega, i + 1, rfl, by omega, p ++ ls[i] :: q, by simp, ?_, ?_⟩
        · rw [slices_insertionSortCmpFunc_int_b1, if_pos (decide_eq_true (by omega)), hdr]
          show ((whileL _ fu (P ++ ls[i] :: ([] ++ ls.drop (i + 1)), (i : Int))).bind _) = _
          rw [e2, Option.bind_some]
          simp only
          rw [i64_id (by omega) (by omega)]
          rfl
        · rw [take_snoc1 (List.getElem?_eq_getElem hil)]
          have h1 : (p ++ ls[i] :: q).Perm (ls[i] :: (p ++ q)) := List.perm_middle
          rw [e1] at h1
          refine h1.trans ?_
          have h2 : (ls[i] :: P).Perm (ls[i] :: ls.take i) := hp.cons _
          refine h2.trans ?_
          exact (List.perm_append_singleton _ _).symm
        · rw [← e1] at hs
          exact ins_sorted hs e3 e4)
    fu (ls.length - 1) (ls, i64 (0 + 1)) ⟨1, by simp [i64_id], by omega, ls.take 1, (List.take_append_drop 1 ls).symm, List.Perm.refl _, by
      obtain ⟨a, t, rfl⟩ : ∃ a t, ls = a :: t := by
        cases ls with
        | nil => simp at h1
        | cons a t => exact ⟨a, t, rfl⟩
      simp [sortedA]⟩ (by omega)
  rw [hj]
  obtain ⟨r, k, rfl, h2, h3⟩ := hQ
  exact ⟨r, rfl, h2, h3⟩
theorem sort_all (fu : Nat) (hf : FU ≤ fu) (ls : List Int) (hl : ∀ l ∈ ls, lit12 l) (h12 : ls.length ≤ 12) : ∃ r, slices_SortFunc_int fu ls i_ClauseOf_1 = some r ∧ r.Perm ls ∧ sortedA r := by
  have hF := hf
  unfold FU at hf
  have h0 : ∃ r, slices_insertionSortCmpFunc_int fu ls 0 (ls.length : Int) i_ClauseOf_1 = some r ∧ r.Perm ls ∧ sortedA r := by
    by_cases h1 : 1 ≤ ls.length
    · exact sort_loop fu hF ls hl h12 h1
    · have : ls = [] := List.length_eq_zero_iff.1 (by omega)
      subst this
      refine ⟨[], ?_, List.Perm.refl _, List.Pairwise.nil⟩
      unfold slices_insertionSortCmpFunc_int
      obtain ⟨k, rfl⟩ : ∃ k, fu = k + 1 := ⟨fu - 1, by omega⟩
      have : whileL (slices_insertionSortCmpFunc_int_b1 (k + 1) 0 (([] : List Int).length : Int) i_ClauseOf_1) (k + 1) ([], i64 (0 + 1)) = some (.nx ([], i64 (0 + 1))) := by
        show (slices_insertionSortCmpFunc_int_b1 (k + 1) 0 (([] : List Int).length : Int) i_ClauseOf_1 ([], i64 (0 + 1))).bind _ = _
        rw [slices_insertionSortCmpFunc_int_b1, if_neg (by rw [i64_id (by omega) (by omega)]; simp)]
        rfl
      rw [this]
      rfl
  obtain ⟨r, h1, h2, h3⟩ := h0
  refine ⟨r, ?_, h2, h3⟩
  unfold slices_SortFunc_int
  have hb : bits_Len (IntKind.u64.wrap (ls.length : Int)) = some (Go.Lib.bitLen (IntKind.u64.wrap (ls.length : Int)).toNat : Int) := by
    unfold bits_Len
    have : IntKind.u64.wrap (ls.length : Int) = (ls.length : Int) := by rw [IntKind.wrap_u64]; omega
    rw [this, if_pos (by omega)]
  rw [hb, Option.bind_some]
  unfold slices_pdqsortCmpFunc_int
  obtain ⟨k, rfl⟩ : ∃ k, fu = k + 1 := ⟨fu - 1, by omega⟩
  have : whileL (slices_pdqsortCmpFunc_int_b1 (k + 1) ls 0 (ls.length : Int) i_ClauseOf_1) (k + 1) () = some (.out r) := by
    show (slices_pdqsortCmpFunc_int_b1 (k + 1) ls 0 (ls.length : Int) i_ClauseOf_1 ()).bind _ = _
    rw [slices_pdqsortCmpFunc_int_b1, i64_id (by omega) (by omega), if_pos (decide_eq_true (by omega)), h1]
    rfl
  rw [this]
  rfl
theorem i_containsI (xs : List Int) (v : Int) : slices_Contains_int xs v = some (xs.contains v) := by
  unfold slices_Contains_int slices_Index_int
  obtain ⟨j, h1, h2⟩ := range_index (q := fun x => v == x) (b := slices_Index_int_b1 v) xs (fun i x hx => by rw [slices_Index_int_b1]; cases v == x <;> rfl)
  rw [h1]
  have e : (xs.any fun x => v == x) = xs.contains v := by
    rw [List.contains_eq_any_beq]
  cases j with
  | nx u => simp only at h2; rw [← e, h2]; rfl
  | out t => simp only at h2; rw [← e, h2.2]; simp [h2.1]
def strictA (xs : List Int) : Prop := xs.Pairwise fun a b => absI a < absI b
theorem filter_split (n : Int) : ∀ (xs : List Int), strictA xs → xs.filter (fun l => decide (absI l ≤ n + 1)) = xs.filter (fun l => decide (absI l ≤ n)) ++ xs.filter (fun l => decide (absI l = n + 1))
  | [], _ => rfl
  | x :: xs, h => by
    unfold strictA at h
    rw [List.pairwise_cons] at h
    have ih := filter_split n xs h.2
    have tl : ∀ m : Int, m < absI x → xs.filter (fun l => decide (absI l ≤ m)) = [] := fun m hm => by
      rw [List.filter_eq_nil_iff]
      intro y hy
      have := h.1 y hy
      simp; omega
    have cp : ∀ (p : Int → Bool), p x = true → (x :: xs).filter p = x :: xs.filter p := fun p hp => by rw [List.filter_cons, if_pos hp]
    have cn : ∀ (p : Int → Bool), p x = false → (x :: xs).filter p = xs.filter p := fun p hp => by rw [List.filter_cons, hp]; rfl
    by_cases h1 : absI x ≤ n
    · rw [cp (fun l => decide (absI l ≤ n + 1)) (decide_eq_true (by omega)), cp (fun l => decide (absI l ≤ n)) (decide_eq_true h1), cn (fun l => decide (absI l = n + 1)) (decide_eq_false (by omega)), ih, List.cons_append]
    · rw [cn (fun l => decide (absI l ≤ n)) (decide_eq_false h1)]
      rw [tl n (by omega), List.nil_append] at ih ⊢
      by_cases h2 : absI x = n + 1
      · rw [cp (fun l => decide (absI l ≤ n + 1)) (decide_eq_true (by omega)), cp (fun l => decide (absI l = n + 1)) (decide_eq_true h2), ih]
      · rw [cn (fun l => decide (absI l ≤ n + 1)) (decide_eq_false (by omega)), cn (fun l => decide (absI l = n + 1)) (decide_eq_false h2), ih]
theorem filter_one (v : Int) (hv : 0 < v) : ∀ (xs : List Int), strictA xs → (∀ x ∈ xs, lit12 x) → xs.filter (fun l => decide (absI l = v)) = (if seenAt xs v ≠ 0 then [seenAt xs v] else [])
  | [], _, _ => by simp [seenAt]
  | x :: xs, h, hl => by
    unfold strictA at h
    rw [List.pairwise_cons] at h
    have hx := hl x (by simp)
    obtain ⟨x0, _, _⟩ := hx
    rw [List.filter_cons]
    by_cases h1 : absI x = v
    · have e1 : xs.filter (fun l => decide (absI l = v)) = [] := by
        rw [List.filter_eq_nil_iff]
        intro y hy
        have := h.1 y hy
        simp; omega
      have hn : ∀ y ∈ xs, absI y ≠ v := fun y hy => by have := h.1 y hy; omega
      have hs : seenAt (x :: xs) v = x := by
        unfold seenAt
        unfold absI at h1
        simp only [List.contains_eq_mem, List.mem_cons, decide_eq_true_eq]
        by_cases hp : x > 0
        · have : v = x := by omega
          rw [if_pos (.inl this), this]
        · have e : v = -x := by omega
          have n1 : ¬ (v = x ∨ v ∈ xs) := by
            rintro (h | h)
            · omega
            · have := hn v h; unfold absI at this; omega
          rw [if_neg n1, if_pos (.inl (by omega))]
          omega
      rw [if_pos (decide_eq_true h1), e1, hs, if_pos x0]
    · have hs : seenAt (x :: xs) v = seenAt xs v := by
        unfold seenAt
        unfold absI at h1
        simp only [List.contains_eq_mem, List.mem_cons, decide_eq_true_eq]
        have n1 : (v = x ∨ v ∈ xs) ↔ v ∈ xs := ⟨fun h => h.elim (fun h => by exfalso; omega) id, .inr⟩
        have n2 : (-v = x ∨ -v ∈ xs) ↔ -v ∈ xs := ⟨fun h => h.elim (fun h => by exfalso; omega) id, .inr⟩
        simp only [n1, n2]
      rw [if_neg (by simpa using h1), hs]
      exact filter_one v hv xs h.2 fun y hy => hl y (by simp [hy])
theorem clT_filter (xs : List Int) (h : strictA xs) (hl : ∀ x ∈ xs, lit12 x) : ∀ n : Nat, clT xs n = (xs.filter fun l => decide (absI l ≤ (n : Int))).map fun l => (⟨1, l⟩ : Term)
  | 0 => by
    have : xs.filter (fun l => decide (absI l ≤ ((0 : Nat) : Int))) = [] := by
      rw [List.filter_eq_nil_iff]
      intro y hy
      have := (hl y hy).1
      unfold absI
      simp; omega
    rw [clT, this]; rfl
  | n + 1 => by
    rw [clT, clT_filter xs h hl n, show ((n + 1 : Nat) : Int) = (n : Int) + 1 by omega, filter_split (n : Int) xs h, List.map_append, filter_one ((n : Int) + 1) (by omega) xs h hl]
    congr 1
    split <;> rfl
theorem clT_sorted (xs : List Int) (h : strictA xs) (hl : ∀ x ∈ xs, lit12 x) : clT xs 12 = xs.map fun l => (⟨1, l⟩ : Term) := by
  rw [clT_filter xs h hl]
  congr 1
  rw [List.filter_eq_self]
  intro x hx
  obtain ⟨_, h1, h2⟩ := hl x hx
  unfold absI
  simp; omega
theorem seenAt_perm {xs ys : List Int} (h : ∀ x, x ∈ xs ↔ x ∈ ys) (v : Int) : seenAt xs v = seenAt ys v := by
  unfold seenAt
  simp only [List.contains_eq_mem, h]
theorem clT_perm {xs ys : List Int} (h : ∀ x, x ∈ xs ↔ x ∈ ys) : ∀ n, clT xs n = clT ys n
  | 0 => rfl
  | n + 1 => by rw [clT, clT, clT_perm h n, seenAt_perm h]
def distinctA (ls : List Int) : Prop := (ls.map absI).Nodup
end Go.L
namespace Go.L
open Go Go.E
set_option linter.unusedVariables false
set_option linter.unusedSimpArgs false
set_option maxRecDepth 100000
structure Dec (d : List Int) : Prop where
  lit : ∀ l ∈ d, lit12 l
  dis : distinctA d
  few : d.length + zer (asgL zeroP d) ≤ 12
theorem Dec.nil : Dec [] := ⟨by simp, by simp [distinctA], by decide⟩
theorem okTerms_snoc' {t : Term} (ht : okT t = true) {n : Int} (hn : n < absI t.lit) : ∀ (xs : List Term) (b : Int), okTerms b xs = true → (∀ x ∈ xs, absI x.lit ≤ n) → b ≤ n → okTerms b (xs ++ [t]) = true
  | [], b, _, _, hb => by
    show (okT t && decide (b < absI t.lit)) && true = true
    rw [ht, decide_eq_true (by omega)]; rfl
  | x :: xs, b, h, hx, hb => by
    rw [okTerms, Bool.and_eq_true, Bool.and_eq_true] at h
    show ((okT x && decide (b < absI x.lit)) && okTerms (absI x.lit) (xs ++ [t])) = true
    rw [h.1.1, h.1.2, okTerms_snoc' ht hn xs _ h.2 (fun y hy => hx y (by simp [hy])) (hx x (by simp))]; rfl
theorem clT_ok {ls : List Int} (h : clOk ls = true) : ∀ n : Nat, n ≤ 12 → okTerms 0 (clT ls n) = true ∧ ∀ t ∈ clT ls n, absI t.lit ≤ (n : Int)
  | 0, _ => ⟨rfl, by simp [clT]⟩
  | n + 1, hn => by
    obtain ⟨h1, h2⟩ := clT_ok h n (by omega)
    rw [clT]
    by_cases e : seenAt ls ((n + 1 : Nat) : Int) ≠ 0
    · rw [if_pos e]
      have e2 : absI (seenAt ls ((n + 1 : Nat) : Int)) = ((n + 1 : Nat) : Int) := by
        revert e
        unfold seenAt
        split
        · intro _; unfold absI; omega
        · split
          · intro _; unfold absI; omega
          · intro h; exact absurd rfl h
      have e3 : okT ⟨1, seenAt ls ((n + 1 : Nat) : Int)⟩ = true := by
        revert e e2
        generalize seenAt ls ((n + 1 : Nat) : Int) = a
        intro e e2
        unfold absI at e2
        unfold okT
        simp
        omega
      refine ⟨okTerms_snoc' e3 (n := (n : Int)) (by simp only [e2]; omega) _ 0 h1 h2 (by omega), ?_⟩
      intro t ht
      rcases List.mem_append.1 ht with ht | ht
      · have := h2 t ht; omega
      · rw [List.mem_singleton] at ht; subst ht; simp only [e2]; omega
    · rw [if_neg e, List.append_nil]
      exact ⟨h1, fun t ht => by have := h2 t ht; omega⟩
theorem clC_ok {ls : List Int} (h : clOk ls = true) : okCon (clC ls) = true := by
  unfold okCon clC
  simp only [(clT_ok h 12 (by omega)).1]
  rfl
end Go.L
namespace Go.L
open Go Go.E
set_option linter.unusedVariables false
set_option linter.unusedSimpArgs false
set_option maxRecDepth 100000
theorem compact_upto {r : List Int} (hs : sortedA r) (he : ∀ x ∈ r, ∀ y ∈ r, absI x = absI y → x = y) : ∀ m, m ≤ r.length → strictA (Go.Lib.compactUpTo r.toArray m) ∧ ∀ x, x ∈ Go.Lib.compactUpTo r.toArray m ↔ x ∈ r.take m
  | 0, _ => ⟨List.Pairwise.nil, fun x => by simp [Go.Lib.compactUpTo]⟩
  | m + 1, hm => by
    obtain ⟨h1, h2⟩ := compact_upto hs he m (by omega)
    have hx : r.toArray[m]! = r[m] := by simp [getElem!_pos, show m < r.length by omega]
    have htk : r.take (m + 1) = r.take m ++ [r[m]] := by rw [List.take_add_one, List.getElem?_eq_getElem (by omega)]; rfl
    have hsm : ∀ i j (hi : i < r.length) (hj : j < r.length), i ≤ j → absI r[i] ≤ absI r[j] := fun i j hi hj hij => by
      rcases Nat.lt_or_ge i j with h | h
      · exact List.pairwise_iff_getElem.1 hs i j hi hj h
      · obtain rfl : i = j := by omega
        exact Int.le_refl _
    rw [Go.Lib.compactUpTo_succ, hx, htk]
    cases hk : Go.Lib.keeps r.toArray m with
    | true =>
      simp only [if_true]
      refine ⟨?_, fun x => by rw [List.mem_append, List.mem_append, h2]⟩
      unfold strictA at *
      rw [List.pairwise_append]
      refine ⟨h1, by simp, fun y hy z hz => ?_⟩
      rw [List.mem_singleton] at hz
      subst hz
      have hy2 := (h2 y).1 hy
      obtain ⟨i, hi, rfl⟩ := List.mem_take_iff_getElem.1 hy2
      have him : i < m := by omega
      have h3 := hsm i (m - 1) (by omega) (by omega) (by omega)
      have h4 := hsm (m - 1) m (by omega) (by omega) (by omega)
      have h5 : absI r[m - 1] ≠ absI r[m] := fun e => by
        have e2 := he _ (List.getElem_mem (show m - 1 < r.length by omega)) _ (List.getElem_mem (show m < r.length by omega)) e
        have : Go.Lib.keeps r.toArray m = false := Go.Lib.keeps_neg (by omega) (by rw [hx, e2.symm]; simp [getElem!_pos, show m - 1 < r.length by omega])
        rw [this] at hk
        cases hk
      omega
    | false =>
      simp only [Bool.false_eq_true, if_false, List.append_nil]
      refine ⟨h1, fun x => ?_⟩
      rw [h2, List.mem_append, List.mem_singleton]
      refine ⟨.inl, fun h => h.elim id fun h => ?_⟩
      subst h
      have hm0 : 0 < m := by
        rcases Nat.eq_zero_or_pos m with h | h
        · subst h
          rw [Go.Lib.keeps_lt_one _ 0 (by omega)] at hk
          cases hk
        · exact h
      have e : r[m] = r[m - 1] := by
        have : ¬ (m = 0 ∨ r.toArray[m]! ≠ r.toArray[m - 1]!) := by
          unfold Go.Lib.keeps at hk
          exact of_decide_eq_false hk
        rw [not_or, Decidable.not_not] at this
        rw [← hx, this.2]
        simp [getElem!_pos, show m - 1 < r.length by omega]
      rw [e, List.mem_take_iff_getElem]
      exact ⟨m - 1, by omega, rfl⟩
theorem i_isLitO (l : Int) : i_isLiteral l = some (litOk l) := by
  unfold i_isLiteral i_within litOk
  simp only [Option.bind_some]
  cases (l != 0) <;> simp
theorem i_clauseG (fu : Nat) (hf : FU ≤ fu) (ls : List Int) (h12 : ls.length ≤ 12) : i_ClauseOf fu ls = some (clauseP ls) := by
  unfold i_ClauseOf clauseP
  rw [if_neg (by simp; omega), range_all (fun l => litOk l && !ls.contains (-l)) (zeroC', false) ls fun i l hli => by
    rw [i_ClauseOf_b1, i_isLitO, Option.bind_some]
    cases hlo : litOk l with
    | false => rfl
    | true =>
      have hl' := litOk_iff.1 hlo
      rw [i_containsI, i64_id (by have := hl'.2.2; omega) (by have := hl'.2.1; omega)]
      cases ls.contains (-l) <;> rfl, Option.bind_some]
  have hd : decide (ls.length ≤ 40) = true := decide_eq_true (by omega)
  rw [hd, Bool.true_and]
  show (match (if clOk ls then (Jn.nx () : Jn Unit (Con × Bool)) else .out (zeroC', false)) with | .nx _ => _ | .out t => some t) = _
  cases hok : clOk ls with
  | false => rfl
  | true =>
    simp only [if_true]
    have hp := clOk_iff.1 hok
    have hl : ∀ l ∈ ls, lit12 l := fun l h => (hp l h).1
    rw [i_clone_int ls (by omega), Option.bind_some]
    obtain ⟨r, h1, h2, h3⟩ := sort_all fu hf ls hl h12
    have hrl : ∀ x ∈ r, lit12 x := fun x hx => hl x (h2.mem_iff.1 hx)
    have he : ∀ x ∈ r, ∀ y ∈ r, absI x = absI y → x = y := fun x hx y hy e => by
      have hn := (hp x (h2.mem_iff.1 hx)).2
      have hy2 := h2.mem_iff.1 hy
      unfold absI at e
      rcases (show x = y ∨ y = -x by omega) with h | h
      · exact h
      · rw [h] at hy2; exact absurd hy2 hn
    obtain ⟨c1, c2⟩ := compact_upto h3 he r.length (Nat.le_refl _)
    rw [List.take_length] at c2
    have c1 : strictA (Go.Lib.compact r) := c1
    have c2 : ∀ x, x ∈ Go.Lib.compact r ↔ x ∈ r := c2
    have hcl : ∀ x ∈ Go.Lib.compact r, lit12 x := fun x hx => hrl x ((c2 x).1 hx)
    have hclen : (Go.Lib.compact r).length ≤ 12 := by have := compact_le r; have := h2.length_eq; omega
    rw [h1, Option.bind_some]
    unfold slices_Compact_int
    rw [Option.bind_some]
    have := range_map (b := i_ClauseOf_b2) (fun l => (⟨1, l⟩ : Term)) (Go.Lib.compact r) fun i x out hx hlo => by
      have hi := (List.getElem?_eq_some_iff.1 hx).1
      rw [i_ClauseOf_b2, app_le (by simp; omega)]
      rfl
    rw [this, Option.bind_some, ← clT_sorted (Go.Lib.compact r) c1 hcl, clT_perm (fun x => (c2 x).trans h2.mem_iff)]
    rfl
theorem drawCl_ok (code : List UInt8) (fu : Nat) (hf : FU ≤ fu) : So (s_DrawClauseOf fu code) fun ls => ls.length ≤ 6 := by
  unfold FU at hf
  unfold s_DrawClauseOf
  refine so_bind (open_ok code) fun r ⟨hb, hp⟩ => ?_
  refine so_bind (num_ok _ _ (by simp) hb (by omega) (by unfold PM; omega)) fun k ⟨hk, hkm⟩ => ?_
  have hkb : 0 ≤ k.1 ∧ k.1 ≤ 6 := by simp at hkm; omega
  refine so_bind (so_while (fun n (s : List Int × Int × Int) => s.2.1 = (n : Int) ∧ n ≤ 6 ∧ s.1.length + n = k.1.toNat ∧ 0 ≤ s.2.2 ∧ s.2.2 ≤ 10 - n) (fun s => s.1.length ≤ 6 ∧ 0 ≤ s.2.2 ∧ s.2.2 ≤ 10) k.1.toNat _ fu (by omega) ⟨by simp only; omega, by omega, by simp, by simp only; omega, by simp only; omega⟩ ?_) ?_
  · rintro n ⟨out, i, p⟩ ⟨h1, h2, h3, h4, h5⟩
    simp only at h1 h3 h4 h5
    unfold s_DrawClauseOf_b1
    refine so_ite (fun hc => ?_) fun hc => so_some (.inr ⟨_, rfl, by simp only [decide_eq_true_eq] at hc; simp only; omega, h4, by simp only; omega⟩)
    have hc := of_decide_eq_true hc
    refine so_bind (num_ok _ _ (by simp) hb (by simp only; omega) (by unfold PM; simp only; omega)) fun a ⟨ha, _⟩ => ?_
    simp only at ha
    refine so_bind (so_app (P := fun (o : List Int) => o.length = out.length + 1) (by simp; omega) (by simp)) fun o ho => ?_
    rw [i64_id (by omega) (by omega)]
    exact so_some (.inl ⟨_, n - 1, rfl, by omega, by simp only; omega, by omega, by simp only; omega, by simp only; omega, by simp only; omega⟩)
  rintro _ ⟨⟨out, i, p⟩, rfl, h1, h2, h3⟩
  simp only at h1 h2 h3
  refine so_bind (P := fun (o : Bool × Int) => (o.1 = true → 0 < out.length) ∧ 0 ≤ o.2 ∧ o.2 ≤ 20) (so_ite (fun hc => ?_) fun _ => so_some ⟨nofun, by simp only; omega, by simp only; omega⟩) fun o ⟨o1, o2, o3⟩ => ?_
  · have hc := of_decide_eq_true hc
    exact so_bind (pick_ok _ _ hb (by simp only; omega) (by unfold PM; simp only; omega)) fun k ⟨hk, _, _⟩ => so_some ⟨fun _ => by omega, by simp only at hk ⊢; omega, by simp only at hk ⊢; omega⟩
  refine so_bind (P := fun (xs : List Int) => xs.length ≤ 6) (so_ite (fun hc => ?_) fun _ => so_some h1) fun xs h => so_some h
  have hlen := o1 hc
  refine so_bind (num_ok _ _ (by simp) hb (by simp only; omega) (by unfold PM; simp only; omega)) fun a ⟨ha, _⟩ => ?_
  exact so_bind (so_idx (P := fun _ => True) (by omega) (by omega) fun _ _ => trivial) fun z _ => so_some (by rw [List.length_set]; exact h1)
end Go.L
namespace Go.L
open Go Go.E
set_option linter.unusedVariables false
set_option linter.unusedSimpArgs false
set_option maxRecDepth 100000
def sg (ls : List Int) (k : Int) : Int := if seenAt ls k = k then 1 else if seenAt ls k = -k then -1 else 0
theorem seen_cases (ls : List Int) (k : Int) : seenAt ls k = k ∨ seenAt ls k = -k ∨ seenAt ls k = 0 := by
  unfold seenAt
  split
  · exact .inl rfl
  · split
    · exact .inr (.inl rfl)
    · exact .inr (.inr rfl)
theorem netF_app (xs ys : List Term) (k : Int) : netF (xs ++ ys) k = netF xs k + netF ys k := by
  induction xs with
  | nil => simp [netF, sumR]
  | cons x xs ih =>
    unfold netF at *
    rw [List.cons_append]
    show con1 k x + sumR (con1 k) (xs ++ ys) = con1 k x + sumR (con1 k) xs + sumR (con1 k) ys
    omega
theorem negS_app (xs ys : List Term) : negS (xs ++ ys) = negS xs + negS ys := by
  induction xs with
  | nil => simp [negS, sumR]
  | cons x xs ih =>
    unfold negS at *
    rw [List.cons_append]
    show (if x.lit < 0 then x.coef else 0) + sumR _ (xs ++ ys) = (if x.lit < 0 then x.coef else 0) + sumR _ xs + sumR _ ys
    omega
theorem net_cl (ls : List Int) (k : Nat) (h1 : 1 ≤ k) : ∀ n, netF (clT ls n) (k : Int) = if k ≤ n then sg ls (k : Int) else 0
  | 0 => by rw [if_neg (by omega)]; rfl
  | n + 1 => by
    rw [clT, netF_app, net_cl ls k h1 n]
    have hone : netF (if seenAt ls ((n + 1 : Nat) : Int) ≠ 0 then [⟨1, seenAt ls ((n + 1 : Nat) : Int)⟩] else []) (k : Int) = if k = n + 1 then sg ls (k : Int) else 0 := by
      rcases seen_cases ls ((n + 1 : Nat) : Int) with h | h | h
      · rw [h, if_pos (by omega)]
        show con1 (k : Int) ⟨1, ((n + 1 : Nat) : Int)⟩ + 0 = _
        unfold con1
        by_cases hk : k = n + 1
        · subst hk
          rw [if_pos rfl, if_pos rfl]
          unfold sg
          rw [if_pos h]
          rfl
        · rw [if_neg (by simp only; omega), if_neg (by simp only; omega), if_neg hk]; rfl
      · rw [h, if_pos (by omega)]
        show con1 (k : Int) ⟨1, -((n + 1 : Nat) : Int)⟩ + 0 = _
        unfold con1
        by_cases hk : k = n + 1
        · subst hk
          rw [if_neg (by simp only; omega), if_pos rfl, if_pos rfl]
          unfold sg
          rw [if_neg (by omega), if_pos h]
          rfl
        · rw [if_neg (by simp only; omega), if_neg (by simp only; omega), if_neg hk]; rfl
      · rw [h, if_neg (by simp)]
        by_cases hk : k = n + 1
        · subst hk
          rw [if_pos rfl]
          unfold sg
          rw [if_neg (by omega), if_neg (by omega)]
          rfl
        · rw [if_neg hk]; rfl
    rw [hone]
    by_cases hk : k ≤ n
    · rw [if_pos hk, if_neg (by omega), if_pos (by omega)]; omega
    · rw [if_neg hk]
      by_cases hk2 : k = n + 1
      · rw [if_pos hk2, if_pos (by omega)]; omega
      · rw [if_neg hk2, if_neg (by omega)]; rfl
theorem neg_cl (ls : List Int) : ∀ n, negS (clT ls n) = -(minS (sg ls) n)
  | 0 => rfl
  | n + 1 => by
    rw [clT, negS_app, neg_cl ls n, minS]
    have hone : negS (if seenAt ls ((n + 1 : Nat) : Int) ≠ 0 then [⟨1, seenAt ls ((n + 1 : Nat) : Int)⟩] else []) = -(min (sg ls ((n + 1 : Nat) : Int)) 0) := by
      unfold sg
      rcases seen_cases ls ((n + 1 : Nat) : Int) with h | h | h
      · rw [h, if_pos (by omega), if_pos rfl]
        show (if ((n + 1 : Nat) : Int) < 0 then (1 : Int) else 0) + 0 = _
        rw [if_neg (by omega)]
        omega
      · rw [h, if_pos (by omega), if_neg (by omega), if_pos rfl]
        show (if -((n + 1 : Nat) : Int) < 0 then (1 : Int) else 0) + 0 = _
        rw [if_pos (by omega)]
        omega
      · rw [h, if_neg (by simp), if_neg (by omega), if_neg (by omega)]
        show (0 : Int) = _
        omega
    rw [hone]
    omega
theorem normT_congr {f g : Int → Int} : ∀ n : Nat, (∀ k : Nat, 1 ≤ k → k ≤ n → f (k : Int) = g (k : Int)) → normT f n = normT g n
  | 0, _ => rfl
  | n + 1, h => by
    rw [normT, normT, normT_congr n fun k h1 h2 => h k h1 (by omega)]
    unfold piece
    rw [h (n + 1) (by omega) (Nat.le_refl _)]
theorem minS_congr {f g : Int → Int} : ∀ n : Nat, (∀ k : Nat, 1 ≤ k → k ≤ n → f (k : Int) = g (k : Int)) → minS f n = minS g n
  | 0, _ => rfl
  | n + 1, h => by rw [minS, minS, minS_congr n fun k h1 h2 => h k h1 (by omega), h (n + 1) (by omega) (Nat.le_refl _)]
theorem minS_two (f : Int → Int) : ∀ n : Nat, minS (fun k => 2 * f k) n = 2 * minS f n
  | 0 => rfl
  | n + 1 => by
    rw [minS, minS, minS_two f n]
    omega
theorem normT_two (ls : List Int) : ∀ n : Nat, normT (fun k => 2 * sg ls k) n = (clT ls n).map fun t => (⟨2, t.lit⟩ : Term)
  | 0 => rfl
  | n + 1 => by
    rw [normT, clT, List.map_append, normT_two ls n]
    congr 1
    have hs : (seenAt ls ((n + 1 : Nat) : Int) = ((n + 1 : Nat) : Int) ∧ sg ls ((n + 1 : Nat) : Int) = 1) ∨ (seenAt ls ((n + 1 : Nat) : Int) = -((n + 1 : Nat) : Int) ∧ sg ls ((n + 1 : Nat) : Int) = -1) ∨ (seenAt ls ((n + 1 : Nat) : Int) = 0 ∧ sg ls ((n + 1 : Nat) : Int) = 0) := by
      unfold sg
      rcases seen_cases ls ((n + 1 : Nat) : Int) with h | h | h
      · exact .inl ⟨h, by rw [if_pos h]⟩
      · exact .inr (.inl ⟨h, by rw [if_neg (by omega), if_pos h]⟩)
      · exact .inr (.inr ⟨h, by rw [if_neg (by omega), if_neg (by omega)]⟩)
    unfold piece
    simp only []
    rcases hs with ⟨h1, h2⟩ | ⟨h1, h2⟩ | ⟨h1, h2⟩
    · rw [h1, h2, if_pos (by omega), if_pos (by omega)]; rfl
    · rw [h1, h2, if_neg (by omega), if_pos (by omega), if_pos (by omega)]; rfl
    · rw [h1, h2, if_neg (by omega), if_neg (by omega), if_neg (by simp)]; rfl
theorem clT_one (ls : List Int) : ∀ n, ∀ t ∈ clT ls n, t.coef = 1
  | 0, t, h => by cases h
  | n + 1, t, h => by
    rw [clT] at h
    rcases List.mem_append.1 h with h | h
    · exact clT_one ls n t h
    · split at h
      · rw [List.mem_singleton.1 h]
      · cases h
theorem okTerms_two : ∀ (ts : List Term) (b : Int), (∀ t ∈ ts, t.coef = 1) → okTerms b (ts.map fun t => (⟨2, t.lit⟩ : Term)) = okTerms b ts
  | [], _, _ => rfl
  | t :: ts, b, h => by
    rw [List.map_cons, okTerms, okTerms, okTerms_two ts _ fun u hu => h u (by simp [hu])]
    have e : okT ⟨2, t.lit⟩ = okT t := by
      unfold okT
      rw [h t (by simp)]
      rfl
    rw [e]
theorem seen_cons {ls : List Int} {l : Int} {k : Int} (hk : k ≠ l ∧ -k ≠ l) : seenAt (l :: ls) k = seenAt ls k := by
  unfold seenAt
  have n1 : (k ∈ l :: ls) ↔ k ∈ ls := by rw [List.mem_cons]; exact ⟨fun h => h.elim (fun h => absurd h hk.1) id, .inr⟩
  have n2 : (-k ∈ l :: ls) ↔ -k ∈ ls := by rw [List.mem_cons]; exact ⟨fun h => h.elim (fun h => absurd h hk.2) id, .inr⟩
  simp only [List.contains_eq_mem, n1, n2]
theorem resolve_facts {ls : List Int} (ha : clOk (11 :: ls) = true) (hb : clOk (-11 :: ls) = true) : clOk ls = true ∧ sg ls 11 = 0 ∧ sg (11 :: ls) 11 = 1 ∧ sg (-11 :: ls) 11 = -1 := by
  have ha2 := clOk_iff.1 ha
  have hb2 := clOk_iff.1 hb
  have h11 : (11 : Int) ∉ ls := fun h => (hb2 (-11) (List.mem_cons_self ..)).2 (List.mem_cons_of_mem _ h)
  have h11n : (-11 : Int) ∉ ls := fun h => (ha2 11 (List.mem_cons_self ..)).2 (List.mem_cons_of_mem _ h)
  refine ⟨clOk_iff.2 fun l hl => ⟨(ha2 l (List.mem_cons_of_mem _ hl)).1, fun h => (ha2 l (List.mem_cons_of_mem _ hl)).2 (List.mem_cons_of_mem _ h)⟩, ?_, ?_, ?_⟩
  · have : seenAt ls 11 = 0 := by unfold seenAt; rw [if_neg (by simpa using h11), if_neg (by simpa using h11n)]
    unfold sg
    rw [this, if_neg (by omega), if_neg (by omega)]
  · have : seenAt (11 :: ls) 11 = 11 := by unfold seenAt; rw [if_pos (by simp)]
    unfold sg
    rw [this, if_pos rfl]
  · have : seenAt (-11 :: ls) 11 = -11 := by
      unfold seenAt
      rw [if_neg (by simp only [List.contains_eq_mem, List.mem_cons, decide_eq_true_eq, not_or]; exact ⟨by omega, h11⟩), if_pos (by simp)]
    unfold sg
    rw [this, if_neg (by omega), if_pos rfl]
theorem sg_same {ls : List Int} (l : Int) (k : Nat) (hl : l = 11 ∨ l = -11) (hk : k ≠ 11) : sg (l :: ls) (k : Int) = sg ls (k : Int) := by
  unfold sg
  rw [seen_cons (by omega)]
theorem resolve_net {ls : List Int} (sL : sg ls 11 = 0) (sA : sg (11 :: ls) 11 = 1) (sB : sg (-11 :: ls) 11 = -1) (k : Nat) (h1 : 1 ≤ k) (h2 : k ≤ 12) : netF (clT (11 :: ls) 12 ++ clT (-11 :: ls) 12) (k : Int) = 2 * sg ls (k : Int) := by
  rw [netF_app, net_cl _ k h1, net_cl _ k h1, if_pos h2, if_pos h2]
  by_cases hk : k = 11
  · have e : (k : Int) = 11 := by omega
    rw [e, sA, sB, sL]; rfl
  · rw [sg_same 11 k (.inl rfl) hk, sg_same (-11) k (.inr rfl) hk]; omega
theorem resolve_min {ls : List Int} (sL : sg ls 11 = 0) (sA : sg (11 :: ls) 11 = 1) (sB : sg (-11 :: ls) 11 = -1) : ∀ n : Nat, minS (sg (11 :: ls)) n = minS (sg ls) n ∧ minS (sg (-11 :: ls)) n = minS (sg ls) n - (if 11 ≤ n then 1 else 0)
  | 0 => ⟨rfl, rfl⟩
  | n + 1 => by
    obtain ⟨i1, i2⟩ := resolve_min sL sA sB n
    rw [minS, minS, minS, i1, i2]
    by_cases hk : n + 1 = 11
    · have e : ((n + 1 : Nat) : Int) = 11 := by omega
      rw [e, sA, sB, sL, if_neg (show ¬ 11 ≤ n by omega), if_pos (show 11 ≤ n + 1 by omega)]
      exact ⟨by omega, by omega⟩
    · rw [sg_same 11 (n + 1) (.inl rfl) hk, sg_same (-11) (n + 1) (.inr rfl) hk]
      refine ⟨rfl, ?_⟩
      by_cases h : 11 ≤ n
      · rw [if_pos h, if_pos (show 11 ≤ n + 1 by omega)]; omega
      · rw [if_neg h, if_neg (show ¬ 11 ≤ n + 1 by omega)]; omega
def twoC (ls : List Int) : Con := ⟨(clT ls 12).map fun t => (⟨2, t.lit⟩ : Term), 1⟩
theorem twoC_ok {ls : List Int} (h : clOk ls = true) : okCon (twoC ls) = true := by
  have hc := clC_ok h
  have e : okCon (twoC ls) = (okTerms 0 ((clT ls 12).map fun t => (⟨2, t.lit⟩ : Term)) && okB 1) := rfl
  have e2 : okCon (clC ls) = (okTerms 0 (clT ls 12) && okB 1) := rfl
  rw [e, okTerms_two _ _ (clT_one ls 12), ← e2]
  exact hc
theorem resolve_add {ls : List Int} (ha : clOk (11 :: ls) = true) (hb : clOk (-11 :: ls) = true) : addC (clC (11 :: ls)) (clC (-11 :: ls)) = (twoC ls, true) := by
  obtain ⟨hok, sL, sA, sB⟩ := resolve_facts ha hb
  obtain ⟨m1, m2⟩ := resolve_min sL sA sB 12
  rw [if_pos (by omega)] at m2
  have e1 : addC (clC (11 :: ls)) (clC (-11 :: ls)) = normC (clT (11 :: ls) 12 ++ clT (-11 :: ls) 12) 2 := by
    unfold addC
    rw [clC_ok ha, clC_ok hb]
    simp only [Bool.and_self, if_true, clC]
    rfl
  have e2 : normT (netF (clT (11 :: ls) 12 ++ clT (-11 :: ls) 12)) 12 = (clT ls 12).map fun t => (⟨2, t.lit⟩ : Term) := by
    exact (normT_congr (f := netF (clT (11 :: ls) 12 ++ clT (-11 :: ls) 12)) (g := fun k => 2 * sg ls k) 12 fun k h1 h2 => resolve_net sL sA sB k h1 h2).trans (normT_two ls 12)
  have e3 : minS (netF (clT (11 :: ls) 12 ++ clT (-11 :: ls) 12)) 12 = 2 * minS (sg ls) 12 := by
    exact (minS_congr (f := netF (clT (11 :: ls) 12 ++ clT (-11 :: ls) 12)) (g := fun k => 2 * sg ls k) 12 fun k h1 h2 => resolve_net sL sA sB k h1 h2).trans (minS_two (sg ls) 12)
  have e4 : negS (clT (11 :: ls) 12 ++ clT (-11 :: ls) 12) = -minS (sg ls) 12 + -(minS (sg ls) 12 - 1) := by
    rw [negS_app, neg_cl, neg_cl, m1, m2]
  rw [e1]
  unfold normC
  rw [e2, e3, e4, show max 0 ((2 : Int) - (-minS (sg ls) 12 + -(minS (sg ls) 12 - 1)) - 2 * minS (sg ls) 12) = 1 by omega]
  show validC (twoC ls) = _
  unfold validC
  rw [if_pos (twoC_ok hok)]
theorem two_div {ls : List Int} (h : clOk ls = true) : divC (twoC ls) 2 = (clC ls, true) := by
  unfold divC
  rw [twoC_ok h, show okK 2 = true from rfl]
  simp only [Bool.and_self, if_true]
  have e : scaleC (upI 2) (twoC ls) = clC ls := by
    unfold scaleC twoC clC
    simp only [List.map_map]
    have e1 : upI 2 1 = 1 := rfl
    have e2 : upI 2 2 = 1 := rfl
    rw [e1]
    have e3 : (clT ls 12).map ((fun t : Term => (⟨upI 2 t.coef, t.lit⟩ : Term)) ∘ fun t => (⟨2, t.lit⟩ : Term)) = clT ls 12 := by
      conv => rhs; rw [← List.map_id (clT ls 12)]
      apply List.map_congr_left
      intro t ht
      have := clT_one ls 12 t ht
      obtain ⟨c, l⟩ := t
      simp only at this
      subst this
      simp only [Function.comp, e2, id]
    rw [e3]
  rw [e]
theorem resolve {ls : List Int} (ha : clOk (11 :: ls) = true) (hb : clOk (-11 :: ls) = true) : clOk ls = true ∧ ∃ s, addC (clC (11 :: ls)) (clC (-11 :: ls)) = (s, true) ∧ divC s 2 = (clC ls, true) :=
  ⟨(resolve_facts ha hb).1, _, resolve_add ha hb, two_div (resolve_facts ha hb).1⟩
theorem clauseP_true {ls : List Int} (h : (clauseP ls).2 = true) : clOk ls = true ∧ clauseP ls = (clC ls, true) := by
  unfold clauseP at *
  split at h
  · rename_i hc
    rw [Bool.and_eq_true] at hc
    exact ⟨hc.2, by rw [if_pos (by rw [hc.1, hc.2]; rfl)]⟩
  · cases h
theorem FnResolve_ok (code : List UInt8) (g0 : code.length ≤ 9223372036854775807 ∧ ∀ x ∈ code, True) : ∃ fu, l_FnResolve fu code = some true := by
  refine ⟨FU, ?_⟩
  unfold l_FnResolve
  split
  · rfl
  obtain ⟨ls, hls, hl6⟩ := drawCl_ok code FU (Nat.le_refl _)
  have hF := Nat.le_refl FU
  rw [hls, Option.bind_some, app_le (by simp; omega), Option.bind_some, show ([11] ++ ls : List Int) = 11 :: ls from rfl, i_clauseG FU hF (11 :: ls) (by simp; omega), Option.bind_some, Option.bind_some, s_clause, Option.bind_some]
  simp only [bne_self_eq_false, Bool.false_eq_true, if_false, i_same, Option.bind_some, decide_true, Bool.not_true, beq_self_eq_true, if_true, Bool.false_or]
  cases hA : (clauseP (11 :: ls)).2 with
  | false => rfl
  | true =>
    obtain ⟨a1, a2⟩ := clauseP_true hA
    simp only [Bool.not_true, Bool.false_eq_true, if_false]
    rw [app_le (by simp; omega), Option.bind_some, show ([-11] ++ ls : List Int) = -11 :: ls from rfl, i_clauseG FU hF (-11 :: ls) (by simp; omega), Option.bind_some]
    cases hB : (clauseP (-11 :: ls)).2 with
    | false => rfl
    | true =>
      obtain ⟨b1, b2⟩ := clauseP_true hB
      obtain ⟨hok, s, hs1, hs2⟩ := resolve a1 b1
      have hL : clauseP ls = (clC ls, true) := by
        unfold clauseP
        rw [hok, decide_eq_true (show ls.length ≤ 40 by omega)]
        rfl
      simp only [Bool.not_true, Bool.false_eq_true, if_false]
      rw [a2, b2, i_add, Option.bind_some, hs1]
      simp only []
      rw [i_div, Option.bind_some, hs2, i_clauseG FU hF ls (by omega), Option.bind_some, hL]
      simp only [Bool.and_self, if_true]
      rfl
end Go.L
