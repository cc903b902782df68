/- Variables of cells; cells; rules and models that hold: the reference and the program say the same. -/
import Derived.Test.YtcjjfneofcpmfaaK3
namespace Go.L
open Go Go.E
set_option linter.unusedVariables false

theorem take_all (xs : List Int) (i : Nat) (h : xs.all qSize = true) : (xs.take i).all qSize = true := by
  rw [List.all_eq_true] at h ⊢
  exact fun x hx => h x (List.mem_of_mem_take hx)
/-- the Boolean variable of a cell and a value -/
def boolVar (m : Model) (c : Nat) (v : Int) : Int := 1 + v + gsum (m.sizes.take c)
theorem s_var (m : Model) (c : Nat) (v : Int) (hc : c ≤ m.sizes.length) (h5 : m.sizes.length ≤ 5) (ha : m.sizes.all qSize = true) (hv : 0 ≤ v ∧ v ≤ 3) : s_l7Var m (c : Int) v = some (boolVar m c v) := by
  unfold s_l7Var
  rw [i64_id (n := 1 + v) (by omega) (by omega), cntF_nat (by omega), Option.bind_some]
  have h := count_to (b := s_l7Var_b1 m) (fun i => 1 + v + gsum (m.sizes.take i)) c 0 (by
    intro i _ hi
    have hil : i < m.sizes.length := by omega
    have hb := qSize_iff.1 (List.all_eq_true.1 ha m.sizes[i] (List.getElem_mem hil))
    have hg := gsum_bound _ (take_all m.sizes i ha)
    have hl : (m.sizes.take i).length ≤ 5 := by simp; omega
    show (idx m.sizes (i : Int)).bind _ = _
    rw [idx_lt hil, Option.bind_some, i64_id (n := 1 + v + gsum (m.sizes.take i) + m.sizes[i]) (by omega) (by omega), i64_id (by omega) (by omega), gsum_next _ _ hil]
    congr 2; omega)
  rw [Nat.zero_add] at h
  have e : 1 + v + gsum (m.sizes.take 0) = 1 + v := by simp [gsum]
  rw [e] at h
  rw [h]; rfl
theorem i_var (m : Model) (c : Nat) (v : Int) (hc : c ≤ m.sizes.length) (h5 : m.sizes.length ≤ 5) (ha : m.sizes.all qSize = true) (hv : 0 ≤ v ∧ v ≤ 3) : i_Model_boolVar m (c : Int) v = some (boolVar m c v) := by
  unfold i_Model_boolVar
  rw [sl_pre hc, Option.bind_some, i64_id (n := 1 + v) (by omega) (by omega)]
  have hal := take_all m.sizes c ha
  have hl : (m.sizes.take c).length ≤ 5 := by simp; omega
  unfold boolVar
  generalize m.sizes.take c = xs at *
  have h := range_to (b := i_Model_boolVar_b1) (fun i => 1 + v + gsum (xs.take i)) xs (by
    intro i x hx
    have hi := (List.getElem?_eq_some_iff.1 hx).1
    obtain rfl : xs[i] = x := (List.getElem?_eq_some_iff.1 hx).2
    have hb := qSize_iff.1 (List.all_eq_true.1 hal xs[i] (List.getElem_mem hi))
    have hg := gsum_bound _ (take_all xs i hal)
    have hl2 : (xs.take i).length ≤ 5 := by simp; omega
    simp only [i_Model_boolVar_b1]
    rw [i64_id (n := xs[i] + 1) (by omega) (by omega), i64_id (by omega) (by omega), gsum_next _ _ hi]
    congr 2; omega)
  have e : 1 + v + gsum (xs.take 0) = 1 + v := by simp [gsum]
  rw [e] at h
  rw [h]
  simp
theorem sizes_get {m : Model} (ha : m.sizes.all qSize = true) {i : Nat} (hi : i < m.sizes.length) : 0 ≤ m.sizes[i] ∧ m.sizes[i] ≤ 3 := qSize_iff.1 (List.all_eq_true.1 ha m.sizes[i] (List.getElem_mem hi))
theorem boolVar_range {m : Model} (h : okModel m = true) {c : Nat} (hc : c < m.sizes.length) {v : Int} (hv : 0 ≤ v ∧ v ≤ m.sizes[c]) : 1 ≤ boolVar m c v ∧ boolVar m c v ≤ gsum m.sizes ∧ boolVar m c v ≤ 12 := by
  obtain ⟨h1, h5, ha, _, hg, _⟩ := okModel_parts h
  have b1 := gsum_bound _ (take_all m.sizes c ha)
  have mono2 : ∀ k, c + 1 + k ≤ m.sizes.length → gsum (m.sizes.take (c + 1)) ≤ gsum (m.sizes.take (c + 1 + k)) := by
    intro k
    induction k with
    | zero => intro _; exact Int.le_refl _
    | succ k ih =>
      intro hk
      have := ih (by omega)
      have hb := sizes_get ha (i := c + 1 + k) (by omega)
      have hg2 := gsum_next m.sizes (c + 1 + k) (by omega)
      rw [← Nat.add_assoc]
      omega
  have h2 := mono2 (m.sizes.length - (c + 1)) (by omega)
  rw [show c + 1 + (m.sizes.length - (c + 1)) = m.sizes.length from by omega, List.take_length, gsum_next _ _ hc] at h2
  unfold boolVar
  omega
theorem bool_var (m : Model) (h : smallM m) (fu : Nat) (hf : FU ≤ fu) (c v : Int) : ∃ r, s_BoolVar fu m c v = some r ∧ i_BoolVar m c v = some r := by
  unfold s_BoolVar i_BoolVar
  rw [i_model m h, Option.bind_some, s_model m h fu hf, Option.bind_some]
  cases hok : okModel m with
  | false => exact ⟨0, rfl, rfl⟩
  | true =>
    obtain ⟨h1, h5, ha, _⟩ := okModel_parts hok
    rw [i64_id (n := (m.sizes.length : Int) - 1) (by omega) (by omega), within_eq]
    by_cases hc : 0 ≤ c ∧ c < (m.sizes.length : Int)
    · obtain ⟨k, rfl⟩ : ∃ k : Nat, c = (k : Int) := ⟨c.toNat, by omega⟩
      have hk : k < m.sizes.length := by omega
      have hb := sizes_get ha hk
      have e1 : (decide (0 ≤ (k : Int)) && decide ((k : Int) ≤ (m.sizes.length : Int) - 1)) = true := by simp; omega
      rw [e1, idx_lt hk]
      by_cases hv : 0 ≤ v ∧ v ≤ m.sizes[k]
      · refine ⟨boolVar m k v, ?_, ?_⟩
        · have e2 : ((((!true) || (decide ((k : Int) < 0))) || (decide ((k : Int) ≥ (m.sizes.length : Int)))) || (decide (v < 0))) = false := by simp; omega
          have e3 : decide (v > m.sizes[k]) = false := by simp; omega
          simp only [e2, ite_false', Option.bind_some, e3, s_var m k v (by omega) h5 ha (by omega)]
        · have e3 : (decide (0 ≤ v) && decide (v ≤ m.sizes[k])) = true := by simp; omega
          simp only [within_eq, Option.bind_some, e3, i_var m k v (by omega) h5 ha (by omega)]
          rfl
      · refine ⟨0, ?_, ?_⟩
        · by_cases hv0 : v < 0
          · have e2 : ((((!true) || (decide ((k : Int) < 0))) || (decide ((k : Int) ≥ (m.sizes.length : Int)))) || (decide (v < 0))) = true := by simp; omega
            rw [e2]; rfl
          · have e2 : ((((!true) || (decide ((k : Int) < 0))) || (decide ((k : Int) ≥ (m.sizes.length : Int)))) || (decide (v < 0))) = false := by simp; omega
            have e3 : decide (v > m.sizes[k]) = true := by simp; omega
            simp only [e2, ite_false', Option.bind_some, e3]
            rfl
        · have e3 : (decide (0 ≤ v) && decide (v ≤ m.sizes[k])) = false := by simp; omega
          simp only [within_eq, Option.bind_some, e3]
          rfl
    · refine ⟨0, ?_, ?_⟩
      · have e2 : ((((!true) || (decide (c < 0))) || (decide (c ≥ (m.sizes.length : Int)))) || (decide (v < 0))) = true := by simp; omega
        rw [e2]; rfl
      · have e1 : (decide (0 ≤ c) && decide (c ≤ (m.sizes.length : Int) - 1)) = false := by simp; omega
        simp only [e1]
        rfl
/-- what FreeVars answers -/
def freeVars (m : Model) : Int := if okModel m then 12 - gsum m.sizes else 0
theorem gsum_last (xs : List Int) (h : 1 ≤ xs.length) : gsum xs = gsum (xs.take (xs.length - 1)) + xs[xs.length - 1] + 1 := by
  have := gsum_next xs (xs.length - 1) (by omega)
  rw [← this, show xs.length - 1 + 1 = xs.length from by omega, List.take_length]
theorem i_free (m : Model) (h : smallM m) : i_FreeVars m = some (freeVars m) := by
  unfold i_FreeVars freeVars
  rw [i_model m h, Option.bind_some]
  cases hok : okModel m with
  | false => rfl
  | true =>
    obtain ⟨h1, h5, ha, _, hg, _⟩ := okModel_parts hok
    have hb := gsum_bound _ ha
    have hs := sizes_get ha (i := m.sizes.length - 1) (by omega)
    have e : i64 ((m.sizes.length : Int) - 1) = ((m.sizes.length - 1 : Nat) : Int) := by rw [i64_id (by omega) (by omega)]; omega
    rw [e]
    simp only [idx_lt (show m.sizes.length - 1 < m.sizes.length by omega), Option.bind_some, i_var m (m.sizes.length - 1) _ (by omega) h5 ha hs, boolVar]
    have hl := gsum_last m.sizes h1
    rw [i64_id (by omega) (by omega)]
    simp; omega
/-! comparisons -/
theorem eq_list {α : Type} [BEq α] [LawfulBEq α] {xs ys : List α} {b : Nat → α → Unit → Option (Lo Unit Bool)} {all : Option Bool} {k : Jn Unit Bool → Option Bool}
    (e : all = if ((xs.length : Int) != (ys.length : Int)) then (some false) else ((rangeL b xs 0 ()).bind k)) (hk : k (.nx ()) = some true) (hk2 : k (.out false) = some false)
    (hb : ∀ i x y, xs[i]? = some x → ys[i]? = some y → b i x () = some (if x == y then .cont () else .out false)) : all = some (xs == ys) := by
  rw [e]
  by_cases hl : xs.length = ys.length
  · rw [if_neg (by simp [hl])]
    have h := range_allI (fun i x => ys[i]? == some x) false (b := b) xs (by
      intro i x hx
      have hi := (List.getElem?_eq_some_iff.1 hx).1
      have hy : ys[i]? = some (ys[i]'(by omega)) := List.getElem?_eq_getElem (by omega)
      rw [hb i x _ hx hy, hy]
      congr 1
      by_cases h : x = ys[i]'(by omega)
      · simp [h]
      · have h2 : ¬ ys[i]'(by omega) = x := fun e => h e.symm
        simp [h, h2])
    rw [h, Option.bind_some]
    have : allFrom (fun i x => ys[i]? == some x) xs 0 = (xs == ys) := by
      rw [Bool.eq_iff_iff, allFrom_iff, beq_iff_eq]
      constructor
      · intro h
        refine List.ext_getElem? fun i => ?_
        rcases Nat.lt_or_ge i xs.length with hi | hi
        · have := h i xs[i] (List.getElem?_eq_getElem hi)
          rw [Nat.zero_add, beq_iff_eq] at this
          rw [this, List.getElem?_eq_getElem hi]
        · rw [List.getElem?_eq_none hi, List.getElem?_eq_none (by omega)]
      · intro h i x hx
        rw [Nat.zero_add, ← h, hx]; simp
    rw [this]
    cases xs == ys <;> simp [hk, hk2]
  · rw [if_pos (by simp; omega)]
    congr 1
    symm
    rw [beq_eq_false_iff_ne]
    intro e; exact hl (congrArg List.length e)
theorem s_ints (a b : List Int) : s_l6Ints a b = some (a == b) :=
  eq_list (b := s_l6Ints_b1 b) rfl rfl rfl (fun i x y hx hy => by show (idx b (i : Int)).bind _ = _; rw [idx_self hy, Option.bind_some, bne]; cases x == y <;> rfl)
theorem i_ints (a b : List Int) : slices_Equal_int a b = some (a == b) :=
  eq_list (b := slices_Equal_int_b1 b) rfl rfl rfl (fun i x y hx hy => by show (idx b (i : Int)).bind _ = _; rw [idx_self hy, Option.bind_some, bne]; cases x == y <;> rfl)
/-! cells -/
def cellsIn (m : Model) (cells : List Int) : Bool := ((cells.length : Int) == (m.sizes.length : Int)) && allFrom (fun i x => decide (0 ≤ x) && decide (x ≤ m.sizes.getD i 0)) cells 0
def okCells (m : Model) (cells : List Int) : Bool := okModel m && cellsIn m cells
theorem getD_lt {α : Type} {xs : List α} {i : Nat} {d : α} (h : i < xs.length) : xs.getD i d = xs[i] := by rw [List.getD_eq_getElem?_getD, List.getElem?_eq_getElem h]; rfl
theorem s_cells1 (m : Model) (cells : List Int) : s_l6Cells m cells = some (cellsIn m cells) := by
  unfold s_l6Cells cellsIn
  by_cases hl : cells.length = m.sizes.length
  · rw [if_neg (by simp [hl])]
    rw [range_allI (fun i x => decide (0 ≤ x) && decide (x ≤ m.sizes.getD i 0)) false cells]
    · rw [show ((cells.length : Int) == (m.sizes.length : Int)) = true from by simp [hl], Bool.true_and]
      cases allFrom (fun i x => decide (0 ≤ x) && decide (x ≤ m.sizes.getD i 0)) cells 0 <;> rfl
    · intro i x hx
      have hi := (List.getElem?_eq_some_iff.1 hx).1
      show ((if _ then _ else _ : Option Bool)).bind _ = _
      rw [idx_lt (show i < m.sizes.length by omega), getD_lt (by omega)]
      have e1 : decide (x < 0) = !decide (0 ≤ x) := by rw [← decide_not, decide_eq_decide]; omega
      have e2 : decide (x > m.sizes[i]) = !decide (x ≤ m.sizes[i]) := by rw [← decide_not, decide_eq_decide]; omega
      rw [e1, Option.bind_some, e2]
      cases decide (0 ≤ x) <;> cases decide (x ≤ m.sizes[i]) <;> rfl
  · rw [if_pos (by simp; omega), show ((cells.length : Int) == (m.sizes.length : Int)) = false from by simp; omega]
    rfl
theorem s_cells (m : Model) (h : smallM m) (fu : Nat) (hf : FU ≤ fu) (cells : List Int) : s_CellsValid fu m cells = some (okCells m cells) := by
  unfold s_CellsValid okCells
  rw [s_model m h fu hf, Option.bind_some, s_cells1]
  cases okModel m <;> rfl
theorem i_cells (m : Model) (h : smallM m) (cells : List Int) : i_CellsValid m cells = some (okCells m cells) := by
  unfold i_CellsValid okCells cellsIn
  rw [i_model m h, Option.bind_some]
  cases okModel m with
  | false => rfl
  | true =>
    by_cases hl : cells.length = m.sizes.length
    · rw [if_neg (by simp [hl])]
      rw [range_allI (fun i x => decide (0 ≤ x) && decide (x ≤ m.sizes.getD i 0)) false cells]
      · rw [show ((cells.length : Int) == (m.sizes.length : Int)) = true from by simp [hl], Bool.true_and, Bool.true_and]
        cases allFrom (fun i x => decide (0 ≤ x) && decide (x ≤ m.sizes.getD i 0)) cells 0 <;> rfl
      · intro i x hx
        have hi := (List.getElem?_eq_some_iff.1 hx).1
        show (idx m.sizes (i : Int)).bind _ = _
        rw [idx_lt (show i < m.sizes.length by omega), getD_lt (by omega), Option.bind_some, within_eq, Option.bind_some]
        cases decide (0 ≤ x) <;> cases decide (x ≤ m.sizes[i]) <;> rfl
    · rw [if_pos (by simp; omega), show ((cells.length : Int) == (m.sizes.length : Int)) = false from by simp; omega]
      rfl
theorem cellsIn_iff {m : Model} {cells : List Int} : cellsIn m cells = true ↔ cells.length = m.sizes.length ∧ ∀ i x, cells[i]? = some x → 0 ≤ x ∧ x ≤ m.sizes.getD i 0 := by
  unfold cellsIn
  rw [Bool.and_eq_true, allFrom_iff, beq_iff_eq]
  constructor
  · rintro ⟨h1, h2⟩
    exact ⟨by omega, fun i x hx => by have := h2 i x hx; simpa using this⟩
  · rintro ⟨h1, h2⟩
    exact ⟨by omega, fun i x hx => by have := h2 i x hx; simpa using this⟩
/-! rules that hold -/
def dotTo (cs vs : List Int) (i : Nat) : Int := ((cs.zip vs).take i).foldl (fun n p => n + p.1 * p.2) 0
def dot (cs vs : List Int) : Int := (cs.zip vs).foldl (fun n p => n + p.1 * p.2) 0
theorem dot_next (cs vs : List Int) (i : Nat) (h1 : i < cs.length) (h2 : i < vs.length) : dotTo cs vs (i + 1) = dotTo cs vs i + cs[i] * vs[i] := by
  unfold dotTo
  rw [List.take_add_one, List.getElem?_eq_getElem (by simp; omega), List.foldl_append]
  simp
def distinct (vs : List Int) : Bool := allFrom (fun i x => !(vs.take i).contains x) vs 0
def ruleHolds (r : Rule) (vs : List Int) : Bool :=
  if r.kind == 1 then decide (dot r.coefs vs ≥ r.bound) else if r.kind == 2 then distinct vs else if r.kind == 4 then decide (vs.getD 0 0 < vs.getD 1 0) else r.rows.any (fun row => row == vs)
def valsOf (r : Rule) (cells : List Int) : List Int := r.vars.map fun v => cells.getD v.toNat 0
theorem prod_bound {x y : Int} (h : -9 ≤ x ∧ x ≤ 9) (k : 0 ≤ y ∧ y ≤ 3) : -27 ≤ x * y ∧ x * y ≤ 27 := by
  obtain rfl | rfl | rfl | rfl : y = 0 ∨ y = 1 ∨ y = 2 ∨ y = 3 := by omega
  all_goals omega
theorem dot_bound (cs vs : List Int) (hc : cs.all qCoef = true) (hv : ∀ x ∈ vs, 0 ≤ x ∧ x ≤ 3) (hl : cs.length = vs.length) : ∀ i, i ≤ vs.length → -27 * i ≤ dotTo cs vs i ∧ dotTo cs vs i ≤ 27 * i := by
  intro i
  induction i with
  | zero => intro _; simp [dotTo]
  | succ i ih =>
    intro hi
    have := ih (by omega)
    have hq := List.all_eq_true.1 hc cs[i] (List.getElem_mem (by omega))
    unfold qCoef at hq
    simp at hq
    have hb := prod_bound (x := cs[i]) (y := vs[i]) ⟨by omega, by omega⟩ (hv _ (List.getElem_mem _))
    rw [dot_next _ _ _ (by omega) (by omega)]
    omega
theorem dot_full (cs vs : List Int) (h : cs.length = vs.length) : dotTo cs vs vs.length = dot cs vs := by
  unfold dotTo dot
  rw [List.take_of_length_le (by simp; omega)]
/-- a linear rule's sum -/
theorem dot_loop (cs vs : List Int) (hc : cs.all qCoef = true) (hv : ∀ x ∈ vs, 0 ≤ x ∧ x ≤ 3) (hl : cs.length = vs.length) (h5 : vs.length ≤ 1048576) {τ : Type} {b : Nat → Int → Int → Option (Lo Int τ)}
    (hb : ∀ i x n, b i x n = (idx cs (i : Int)).bind fun c => some (.cont (i64 (n + (i64 (c * x)))))) : rangeL b vs 0 0 = some (.nx (dot cs vs)) := by
  have h := range_to (b := b) (fun i => dotTo cs vs i) vs (by
    intro i x hx
    have hi := (List.getElem?_eq_some_iff.1 hx).1
    obtain rfl : vs[i] = x := (List.getElem?_eq_some_iff.1 hx).2
    have hq := List.all_eq_true.1 hc cs[i] (List.getElem_mem (by omega))
    unfold qCoef at hq
    simp at hq
    have hp := prod_bound (x := cs[i]) (y := vs[i]) ⟨by omega, by omega⟩ (hv _ (List.getElem_mem _))
    have hd := dot_bound cs vs hc hv hl i (by omega)
    rw [hb, idx_lt (by omega), Option.bind_some, i64_id (n := cs[i] * vs[i]) (by omega) (by omega), i64_id (by omega) (by omega), dot_next _ _ _ (by omega) (by omega)])
  rw [dot_full _ _ hl] at h
  exact h
/-- what a valid rule asks of its kind -/
theorem okRule_parts {n : Nat} {r : Rule} (h : okRule n r = true) : okVars n r.vars = true ∧ 1 ≤ r.vars.length ∧ ((r.kind = 1 ∧ r.coefs.all qCoef = true ∧ r.coefs.length = r.vars.length ∧ -1000 ≤ r.bound ∧ r.bound ≤ 1000) ∨ r.kind = 2 ∨ (r.kind = 3 ∧ r.rows.all (qRow r.vars.length) = true ∧ r.rows.length ≤ 8) ∨ (r.kind = 4 ∧ r.vars.length = 2)) := by
  unfold okRule at h
  split at h
  · cases h
  · rename_i hc
    simp at hc
    refine ⟨hc.1.1.1, by omega, ?_⟩
    split at h
    · rename_i hk
      simp at hk h
      exact .inl ⟨hk, by simpa using h.1, by omega, by omega, by omega⟩
    · split at h
      · rename_i _ hk; simp at hk; exact .inr (.inl hk)
      · split at h
        · rename_i _ _ hk; simp at hk h; exact .inr (.inr (.inl ⟨hk, by simpa using h.1, by omega⟩))
        · split at h
          · rename_i _ _ _ hk; simp at hk h; exact .inr (.inr (.inr ⟨hk, by omega⟩))
          · cases h
theorem okVars_iff {n : Nat} {xs : List Int} : okVars n xs = true ↔ (∀ x ∈ xs, 0 ≤ x ∧ x < (n : Int)) ∧ distinct xs = true := by
  unfold okVars distinct
  rw [allFrom_iff, allFrom_iff]
  constructor
  · intro h
    refine ⟨fun x hx => ?_, fun i x hx => ?_⟩
    · obtain ⟨i, hi, rfl⟩ := List.mem_iff_getElem.1 hx
      have := h i xs[i] (List.getElem?_eq_getElem hi)
      unfold gqVars at this
      simp at this
      omega
    · have := h i x hx
      unfold gqVars at this
      rw [Bool.and_eq_true] at this
      exact this.2
  · rintro ⟨h1, h2⟩ i x hx
    have := h1 x (List.mem_of_getElem? hx)
    have h3 := h2 i x hx
    unfold gqVars
    rw [Bool.and_eq_true]
    exact ⟨by simp; omega, h3⟩
theorem valsOf_bound {m : Model} {cells : List Int} (ha : m.sizes.all qSize = true) (hc : cellsIn m cells = true) (r : Rule) (hv : okVars m.sizes.length r.vars = true) : ∀ x ∈ valsOf r cells, 0 ≤ x ∧ x ≤ 3 := by
  intro x hx
  obtain ⟨v, hvm, rfl⟩ := List.mem_map.1 hx
  obtain ⟨h1, h2⟩ := cellsIn_iff.1 hc
  have hb := (okVars_iff.1 hv).1 v hvm
  have hl : v.toNat < cells.length := by omega
  rw [getD_lt hl]
  have h3 := h2 v.toNat cells[v.toNat] (List.getElem?_eq_getElem hl)
  rw [getD_lt (by omega)] at h3
  have := sizes_get ha (i := v.toNat) (by omega)
  omega
theorem vals_loop (n : Nat) (r : Rule) (cells : List Int) (hn : cells.length = n) (hv : okVars n r.vars = true) (hl : r.vars.length ≤ 1048576) {τ : Type} {b : Nat → Int → List Int → Option (Lo (List Int) τ)}
    (hb : ∀ i x out, b i x out = (idx cells x).bind fun y => (app out ([y])).bind fun z => some (.cont z)) : rangeL b r.vars 0 [] = some (.nx (valsOf r cells)) := by
  refine range_map (fun v => cells.getD v.toNat 0) r.vars ?_
  intro i x out hx ho
  have hi := (List.getElem?_eq_some_iff.1 hx).1
  have hb1 := (okVars_iff.1 hv).1 x (List.mem_of_getElem? hx)
  rw [hb, idx_get hb1.1 (by omega), Option.bind_some, app_le (by simp; omega), Option.bind_some, getD_lt (by omega)]
theorem less_idx {vs : List Int} (h : vs.length = 2) : ((idx vs 0).bind fun x => (idx vs 1).bind fun y => some (decide (x < y))) = some (decide (vs.getD 0 0 < vs.getD 1 0)) := by
  match vs, h with
  | [x, y], _ => rfl
theorem s_holds {m : Model} {cells : List Int} (hs : smallM m) (h5 : m.sizes.length ≤ 5) (ha : m.sizes.all qSize = true) (hc : cellsIn m cells = true) (r : Rule) (hr : r ∈ m.rules) (hok : okRule m.sizes.length r = true) :
    s_l6Holds r cells = some (ruleHolds r (valsOf r cells)) := by
  obtain ⟨hv, hv1, hk⟩ := okRule_parts hok
  have hsm := hs.2.2 r hr
  have hvb := valsOf_bound ha hc r hv
  have hlen : (valsOf r cells).length = r.vars.length := by simp [valsOf]
  unfold s_l6Holds
  rw [vals_loop m.sizes.length r cells (cellsIn_iff.1 hc).1 hv hsm.1 (b := s_l6Holds_b1 cells) (fun _ _ _ => rfl), Option.bind_some]
  simp only
  unfold ruleHolds
  have h51 := hsm.1
  rcases hk with ⟨hk, hc1, hc2, _⟩ | hk | ⟨hk, _⟩ | ⟨hk, h2⟩
  · rw [hk]
    simp only [beq_self_eq_true, if_true]
    rw [dot_loop r.coefs _ hc1 hvb (by omega) (by omega) (b := s_l6Holds_b2 r) (fun _ _ _ => rfl)]
    rfl
  · rw [hk]
    rw [show ((2 : Int) == 1) = false from rfl, show ((2 : Int) == 2) = true from rfl]
    simp only [ite_false']
    rw [range_allI (fun i x => !((valsOf r cells).take i).contains x) false]
    · unfold distinct
      cases allFrom (fun i x => !((valsOf r cells).take i).contains x) (valsOf r cells) 0 <;> rfl
    · intro i x hx
      have hi := (List.getElem?_eq_some_iff.1 hx).1
      show (cntF 0 (i : Int)).bind _ = _
      rw [cntF_nat (by omega), Option.bind_some, count_notin (valsOf r cells) x (.out false) i (by omega) fun k hk => rfl]
      cases ((valsOf r cells).take i).contains x <;> rfl
  · rw [hk]
    rw [show ((3 : Int) == 1) = false from rfl, show ((3 : Int) == 2) = false from rfl, show ((3 : Int) == 4) = false from rfl]
    simp only [ite_false']
    rw [range_any (fun row => row == valsOf r cells) true]
    · cases r.rows.any (fun row => row == valsOf r cells) <;> rfl
    · intro i x hx
      show (s_l6Ints x _).bind _ = _
      rw [s_ints, Option.bind_some]
      cases x == valsOf r cells <;> rfl
  · rw [hk]
    rw [show ((4 : Int) == 1) = false from rfl, show ((4 : Int) == 2) = false from rfl, show ((4 : Int) == 4) = true from rfl]
    simp only [ite_false']
    exact less_idx (by omega)
/-- the program's rule that holds -/
theorem containsI (vs : List Int) (i : Nat) (hi : i ≤ vs.length) (x : Int) : ((sl vs 0 (i : Int)).bind fun ys => slices_Contains_int ys x) = some ((vs.take i).contains x) := by
  rw [sl_pre hi, Option.bind_some, containsInt]
theorem i_holdsV (n : Nat) (r : Rule) (vs : List Int) (hlen : vs.length = r.vars.length) (hl : r.vars.length ≤ 1048576) (hvb : ∀ x ∈ vs, 0 ≤ x ∧ x ≤ 3) (hok : okRule n r = true) : i_Rule_holds r vs = some (ruleHolds r vs) := by
  obtain ⟨hv, hv1, hk⟩ := okRule_parts hok
  unfold i_Rule_holds ruleHolds
  rcases hk with ⟨hk, hc1, hc2, _⟩ | hk | ⟨hk, _⟩ | ⟨hk, h2⟩
  · rw [hk]
    simp only [beq_self_eq_true, if_true]
    rw [dot_loop r.coefs _ hc1 hvb (by omega) (by omega) (b := i_Rule_holds_b1 r) (fun _ _ _ => rfl)]
    rfl
  · rw [hk]
    rw [show ((2 : Int) == 1) = false from rfl, show ((2 : Int) == 2) = true from rfl]
    simp only [ite_false', if_true]
    rw [range_allI (fun i x => !(vs.take i).contains x) false]
    · unfold distinct
      cases allFrom (fun i x => !(vs.take i).contains x) vs 0 <;> rfl
    · intro i x hx
      have hi := (List.getElem?_eq_some_iff.1 hx).1
      show (sl vs 0 (i : Int)).bind _ = _
      rw [sl_pre (by omega), Option.bind_some, containsInt, Option.bind_some]
      cases (vs.take i).contains x <;> rfl
  · rw [hk]
    rw [show ((3 : Int) == 1) = false from rfl, show ((3 : Int) == 2) = false from rfl, show ((3 : Int) == 3) = true from rfl, show ((3 : Int) == 4) = false from rfl]
    simp only [ite_false', if_true]
    rw [containsFuncSint r.rows _ (fun row => row == vs) fun row _ => by unfold i_Rule_holds_1; rw [i_ints]; rfl]
    rfl
  · rw [hk]
    rw [show ((4 : Int) == 1) = false from rfl, show ((4 : Int) == 2) = false from rfl, show ((4 : Int) == 3) = false from rfl, show ((4 : Int) == 4) = true from rfl]
    simp only [ite_false', if_true]
    exact less_idx (by omega)
theorem i_at {m : Model} {cells : List Int} (hs : smallM m) (ha : m.sizes.all qSize = true) (hc : cellsIn m cells = true) (r : Rule) (hr : r ∈ m.rules) (hok : okRule m.sizes.length r = true) :
    i_Rule_at r cells = some (ruleHolds r (valsOf r cells)) := by
  obtain ⟨hv, hv1, hk⟩ := okRule_parts hok
  have hsm := hs.2.2 r hr
  unfold i_Rule_at
  rw [vals_loop m.sizes.length r cells (cellsIn_iff.1 hc).1 hv hsm.1 (b := i_Rule_at_b1 cells) (fun _ _ _ => rfl), Option.bind_some]
  simp only
  rw [i_holdsV m.sizes.length r _ (by simp [valsOf]) hsm.1 (valsOf_bound ha hc r hv) hok]
  rfl
/-- what RuleHolds answers -/
def holdsAt (m : Model) (rule : Int) (cells : List Int) : Bool := (okCells m cells && (decide (0 ≤ rule) && decide (rule < (m.rules.length : Int)))) && (match m.rules[rule.toNat]? with | some r => ruleHolds r (valsOf r cells) | none => false)
theorem okCells_parts {m : Model} {cells : List Int} (h : okCells m cells = true) : okModel m = true ∧ cellsIn m cells = true := by unfold okCells at h; rwa [Bool.and_eq_true] at h
theorem okRule_mem {m : Model} (h : okModel m = true) {r : Rule} (hr : r ∈ m.rules) : okRule m.sizes.length r = true := List.all_eq_true.1 (okModel_parts h).2.2.2.2.2 r hr
theorem s_ruleHolds (m : Model) (h : smallM m) (fu : Nat) (hf : FU ≤ fu) (rule : Int) (cells : List Int) : s_RuleHolds fu m rule cells = some (holdsAt m rule cells) := by
  unfold s_RuleHolds holdsAt
  rw [s_cells m h fu hf, Option.bind_some]
  cases hc : okCells m cells with
  | false => rfl
  | true =>
    obtain ⟨hm, hci⟩ := okCells_parts hc
    obtain ⟨h1, h5, ha, _⟩ := okModel_parts hm
    by_cases hr : 0 ≤ rule ∧ rule < (m.rules.length : Int)
    · have e : ((true && decide (rule ≥ 0)) && decide (rule < (m.rules.length : Int))) = true := by simp; omega
      have e2 : (true && (decide (0 ≤ rule) && decide (rule < (m.rules.length : Int)))) = true := by simp; omega
      have hl : rule.toNat < m.rules.length := by omega
      rw [e, e2, idx_get hr.1 hl]
      have hmem := List.getElem_mem hl
      simp only [if_true, Option.bind_some, s_holds h h5 ha hci _ hmem (okRule_mem hm hmem), List.getElem?_eq_getElem hl, Bool.true_and]
    · have e : ((true && decide (rule ≥ 0)) && decide (rule < (m.rules.length : Int))) = false := by simp; omega
      have e2 : (true && (decide (0 ≤ rule) && decide (rule < (m.rules.length : Int)))) = false := by simp; omega
      rw [e, e2]; rfl
theorem i_isRuleE (m : Model) (h : smallM m) (rule : Int) : i_isRule m rule = some (decide (0 ≤ rule) && decide (rule < (m.rules.length : Int))) := by
  unfold i_isRule
  have := h.2.1
  rw [i64_id (by omega) (by omega), within_eq]
  simp only [Option.bind_some]
  have e : decide (rule ≤ (m.rules.length : Int) - 1) = decide (rule < (m.rules.length : Int)) := by rw [decide_eq_decide]; omega
  rw [e]
theorem i_ruleHolds (m : Model) (h : smallM m) (rule : Int) (cells : List Int) : i_RuleHolds m rule cells = some (holdsAt m rule cells) := by
  unfold i_RuleHolds holdsAt
  rw [i_cells m h, Option.bind_some]
  cases hc : okCells m cells with
  | false => rfl
  | true =>
    obtain ⟨hm, hci⟩ := okCells_parts hc
    obtain ⟨h1, h5, ha, _⟩ := okModel_parts hm
    rw [i_isRuleE m h]
    by_cases hr : 0 ≤ rule ∧ rule < (m.rules.length : Int)
    · have e2 : (decide (0 ≤ rule) && decide (rule < (m.rules.length : Int))) = true := by simp; omega
      have hl : rule.toNat < m.rules.length := by omega
      rw [e2, idx_get hr.1 hl]
      have hmem := List.getElem_mem hl
      simp only [if_true, Option.bind_some, i_at h ha hci _ hmem (okRule_mem hm hmem), List.getElem?_eq_getElem hl, Bool.true_and]
    · have e2 : (decide (0 ≤ rule) && decide (rule < (m.rules.length : Int))) = false := by simp; omega
      rw [e2]; rfl
/-- whether all rules hold -/
def solves (m : Model) (cells : List Int) : Bool := m.rules.all fun r => ruleHolds r (valsOf r cells)
theorem s_solves {m : Model} {cells : List Int} (hs : smallM m) (hm : okModel m = true) (hc : cellsIn m cells = true) : s_l6Solves m cells = some (solves m cells) := by
  obtain ⟨h1, h5, ha, _⟩ := okModel_parts hm
  unfold s_l6Solves
  rw [range_all (fun r => ruleHolds r (valsOf r cells)) false m.rules]
  · unfold solves
    cases m.rules.all (fun r => ruleHolds r (valsOf r cells)) <;> rfl
  · intro i r hr
    have hmem := List.mem_of_getElem? hr
    show (s_l6Holds r cells).bind _ = _
    rw [s_holds hs h5 ha hc r hmem (okRule_mem hm hmem), Option.bind_some]
    cases ruleHolds r (valsOf r cells) <;> rfl
theorem i_solves {m : Model} {cells : List Int} (hs : smallM m) (hm : okModel m = true) (hc : cellsIn m cells = true) : i_Model_solves m cells = some (solves m cells) := by
  obtain ⟨h1, h5, ha, _⟩ := okModel_parts hm
  unfold i_Model_solves
  rw [containsFuncRule m.rules _ (fun r => !ruleHolds r (valsOf r cells)) fun r hr => by unfold i_Model_solves_1; rw [i_at hs ha hc r hr (okRule_mem hm hr)]; rfl]
  rw [any_not_all, Option.bind_some, Bool.not_not]
  rfl
def solvesM (m : Model) (cells : List Int) : Bool := okCells m cells && solves m cells
theorem s_solvesM (m : Model) (h : smallM m) (fu : Nat) (hf : FU ≤ fu) (cells : List Int) : s_SolvesModel fu m cells = some (solvesM m cells) := by
  unfold s_SolvesModel solvesM
  rw [s_cells m h fu hf, Option.bind_some]
  cases hc : okCells m cells with
  | false => rfl
  | true => obtain ⟨hm, hci⟩ := okCells_parts hc; rw [s_solves h hm hci]; rfl
theorem i_solvesM (m : Model) (h : smallM m) (cells : List Int) : i_SolvesModel m cells = some (solvesM m cells) := by
  unfold i_SolvesModel solvesM
  rw [i_cells m h, Option.bind_some]
  cases hc : okCells m cells with
  | false => rfl
  | true => obtain ⟨hm, hci⟩ := okCells_parts hc; rw [i_solves h hm hci]; rfl
end Go.L
