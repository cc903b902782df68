/- Cells in their order: the next ones, and how many are left. Counting. -/
import Derived.Test.YtcjjfneofcpmfaaK4
namespace Go.L
open Go Go.E
set_option linter.unusedVariables false

def nextC : List Int → List Int → Option (List Int)
  | s :: ss, c :: cs => match nextC ss cs with
    | some cs' => some (c :: cs')
    | none => if c < s then some ((c + 1) :: List.replicate cs.length 0) else none
  | _, _ => none
def fit : List Int → List Int → Prop
  | [], [] => True
  | s :: ss, c :: cs => (0 ≤ c ∧ c ≤ s) ∧ fit ss cs
  | _, _ => False
theorem fit_iff : ∀ (ss cs : List Int), fit ss cs ↔ cs.length = ss.length ∧ ∀ i x, cs[i]? = some x → 0 ≤ x ∧ x ≤ ss.getD i 0
  | [], [] => by simp [fit]
  | [], c :: cs => by simp [fit]
  | s :: ss, [] => by simp [fit]
  | s :: ss, c :: cs => by
    rw [fit, fit_iff ss cs]
    constructor
    · rintro ⟨h0, h1, h2⟩
      refine ⟨by simp [h1], fun i x hx => ?_⟩
      cases i with
      | zero => simp at hx; subst hx; simpa using h0
      | succ i => simpa using h2 i x (by simpa using hx)
    · rintro ⟨h1, h2⟩
      refine ⟨by simpa using h2 0 c rfl, by simpa using h1, fun i x hx => ?_⟩
      simpa using h2 (i + 1) x (by simpa using hx)
theorem fit_len {ss cs : List Int} (h : fit ss cs) : cs.length = ss.length := ((fit_iff _ _).1 h).1
theorem fit_get {ss cs : List Int} (h : fit ss cs) {i : Nat} (hi : i < cs.length) : 0 ≤ cs[i] ∧ cs[i] ≤ ss[i]'(by rw [← fit_len h]; exact hi) := by
  have := ((fit_iff _ _).1 h).2 i cs[i] (List.getElem?_eq_getElem hi)
  rwa [getD_lt (by rw [← fit_len h]; exact hi)] at this
theorem cellsIn_fit {m : Model} {cells : List Int} : cellsIn m cells = true ↔ fit m.sizes cells := by rw [cellsIn_iff, fit_iff]
theorem nextC_drop : ∀ (i : Nat) (ss cs t : List Int), i ≤ cs.length → cs.length = ss.length → nextC (ss.drop i) (cs.drop i) = some t → nextC ss cs = some (cs.take i ++ t)
  | 0, ss, cs, t, _, _, h => by simpa using h
  | i + 1, s :: ss, c :: cs, t, hi, hl, h => by
    have := nextC_drop i ss cs t (by simpa using hi) (by simpa using hl) (by simpa using h)
    simp [nextC, this]
  | i + 1, [], c :: cs, t, hi, hl, h => by simp at hl
  | i + 1, s :: ss, [], t, hi, hl, h => by simp at hl
  | i + 1, [], [], t, hi, hl, h => by simp at hi
/-- the cells whose last ones, from j on, are 0 -/
def zfrom (cs : List Int) (j : Nat) : List Int := cs.take j ++ List.replicate (cs.length - j) 0
theorem zfrom_len (cs : List Int) (j : Nat) (h : j ≤ cs.length) : (zfrom cs j).length = cs.length := by simp [zfrom]; omega
theorem zfrom_set (cs : List Int) (j : Nat) (h : j < cs.length) (x : Int) : (zfrom cs (j + 1)).set j x = cs.take j ++ x :: List.replicate (cs.length - (j + 1)) 0 := by
  have e : cs.take (j + 1) = cs.take j ++ [cs[j]] := by rw [List.take_add_one, List.getElem?_eq_getElem h]; rfl
  have hl : (cs.take j).length = j := by simp; omega
  unfold zfrom
  rw [e, List.append_assoc, List.set_append_right _ _ (by omega), hl, Nat.sub_self]
  rfl
theorem zfrom_zero (cs : List Int) (j : Nat) (h : j < cs.length) : (zfrom cs (j + 1)).set j 0 = zfrom cs j := by
  rw [zfrom_set cs j h]
  unfold zfrom
  rw [show cs.length - j = (cs.length - (j + 1)) + 1 from by omega, List.replicate_succ]
theorem zfrom_get (cs : List Int) (j : Nat) (h : j < cs.length) : (zfrom cs (j + 1))[j]? = some cs[j] := by
  unfold zfrom
  rw [List.getElem?_append_left (by simp; omega), List.getElem?_take_of_lt (by omega), List.getElem?_eq_getElem h]
theorem next_up {ss cs : List Int} (hf : fit ss cs) {j : Nat} (hj : j < cs.length) (hn : nextC (ss.drop (j + 1)) (cs.drop (j + 1)) = none) (hlt : cs[j] < ss[j]'(by rw [← fit_len hf]; exact hj)) :
    nextC ss cs = some ((zfrom cs (j + 1)).set j (cs[j] + 1)) := by
  have hl := fit_len hf
  refine (nextC_drop j ss cs ((cs[j] + 1) :: List.replicate (cs.length - (j + 1)) 0) (by omega) hl ?_).trans ?_
  · rw [List.drop_eq_getElem_cons (show j < ss.length by omega), List.drop_eq_getElem_cons hj]
    simp [nextC, hn, hlt]
  · rw [zfrom_set cs j hj]
theorem next_no {ss cs : List Int} (hf : fit ss cs) {j : Nat} (hj : j < cs.length) (hn : nextC (ss.drop (j + 1)) (cs.drop (j + 1)) = none) (hlt : ¬ cs[j] < ss[j]'(by rw [← fit_len hf]; exact hj)) :
    nextC (ss.drop j) (cs.drop j) = none := by
  have hl := fit_len hf
  rw [List.drop_eq_getElem_cons (show j < ss.length by omega), List.drop_eq_getElem_cons hj]
  simp [nextC, hn, hlt]
theorem next_end {ss cs : List Int} (hf : fit ss cs) : nextC (ss.drop cs.length) (cs.drop cs.length) = none := by
  rw [List.drop_length, fit_len hf, List.drop_length]; rfl
theorem s_next (m : Model) (cells : List Int) (hf : fit m.sizes cells) (h5 : cells.length ≤ 5) (h3 : m.sizes.all qSize = true) (fu : Nat) (hfu : FU ≤ fu) :
    s_l6Next fu m cells = some (match nextC m.sizes cells with | some c => (c, true) | none => (List.replicate cells.length 0, false)) := by
  unfold s_l6Next
  have hl := fit_len hf
  have e0 : i64 ((cells.length : Int) - 1) = (cells.length : Int) - 1 := i64_id (by omega) (by omega)
  rw [app_le (by simp; omega), Option.bind_some]
  simp only [List.nil_append]
  rw [e0]
  obtain ⟨j, hj, hQ⟩ := while_inv (b := s_l6Next_b1 m) (fun n s => n = (s.2 + 1).toNat ∧ ∃ j : Nat, j ≤ cells.length ∧ s.1 = zfrom cells j ∧ s.2 = (j : Int) - 1 ∧ nextC (m.sizes.drop j) (cells.drop j) = none)
    (fun jn => (match jn with | .nx s => s.1 = List.replicate cells.length 0 ∧ nextC m.sizes cells = none | .out t => t.2 = true ∧ nextC m.sizes cells = some t.1))
    (by
      rintro n ⟨out, i⟩ ⟨hn, j, hj, ho, hi, hnone⟩
      simp only at ho hi hn
      subst ho hi
      cases j with
      | zero =>
        refine ⟨.brk (zfrom cells 0, ((0 : Nat) : Int) - 1), ?_, ?_, ?_⟩
        · simp only [s_l6Next_b1]
          rw [if_neg (by simp)]
        · simp [zfrom]
        · simpa using hnone
      | succ j =>
        have hjl : j < cells.length := by omega
        have hb := fit_get hf hjl
        have hs := sizes_get h3 (i := j) (by omega)
        have e : (((j + 1 : Nat) : Int) - 1) = (j : Int) := by omega
        rw [e]
        have hbody : s_l6Next_b1 m (zfrom cells (j + 1), (j : Int)) = if decide (cells[j] < m.sizes[j]'(by omega)) then some (.out ((zfrom cells (j + 1)).set j (cells[j] + 1), true)) else some (.cont (zfrom cells j, (j : Int) - 1)) := by
          simp only [s_l6Next_b1]
          rw [if_pos (by simp), idx_nat, zfrom_get cells j hjl, idx_lt (show j < m.sizes.length by omega)]
          simp only [Option.bind_some]
          rw [i64_id (n := cells[j] + 1) (by omega) (by omega), i64_id (n := (j : Int) - 1) (by omega) (by omega), Int.toNat_natCast, zfrom_zero cells j hjl]
        rw [hbody]
        by_cases hlt : cells[j] < m.sizes[j]'(by omega)
        · exact ⟨.out ((zfrom cells (j + 1)).set j (cells[j] + 1), true), by rw [if_pos (by simpa using hlt)], rfl, next_up hf hjl hnone hlt⟩
        · exact ⟨.cont (zfrom cells j, (j : Int) - 1), by rw [if_neg (by simpa using hlt)], ((j : Int) - 1 + 1).toNat,
            by omega,
            rfl, j, by omega, rfl, rfl, next_no hf hjl hnone hlt⟩)
    fu ((cells.length : Int) - 1 + 1).toNat (cells, (cells.length : Int) - 1) ⟨rfl, cells.length, Nat.le_refl _, by simp [zfrom], rfl, next_end hf⟩ (by unfold FU at hfu; omega)
  rw [hj]
  cases j with
  | nx s => obtain ⟨h1, h2⟩ := hQ; rw [h2, Option.bind_some]; simp only [h1]
  | out t => obtain ⟨h1, h2⟩ := hQ; rw [h2, Option.bind_some]; obtain ⟨a, b⟩ := t; simp only at h1; subst h1; rfl
/-- the program's search for the last cell that is not at its end -/
theorem i_step {τ : Type} (sizes cells : List Int) (hf : fit sizes cells) (h5 : cells.length ≤ 1000) (fu : Nat) (hfu : FU ≤ fu) {b : (List Int × Int) → Option (Lo (List Int × Int) τ)}
    (hb : ∀ c i, b (c, i) = (if decide (i ≥ 0) then ((idx c i).bind fun x => (idx sizes i).bind fun y => some (x == y)) else some false).bind fun q => if q then ((idx c i).bind fun x => some (.cont ((c.set (Int.toNat i) 0), i64 (i - 1)))) else (some (.brk (c, i)))) :
    ∃ j : Nat, j ≤ cells.length ∧ whileL b fu (cells, i64 ((cells.length : Int) - 1)) = some (.nx (zfrom cells j, (j : Int) - 1)) ∧ (j = 0 → nextC sizes cells = none) ∧
      (∀ k, j = k + 1 → ∃ hk : k < cells.length, nextC sizes cells = some ((zfrom cells (k + 1)).set k (cells[k] + 1))) := by
  have hl := fit_len hf
  have e0 : i64 ((cells.length : Int) - 1) = (cells.length : Int) - 1 := i64_id (by omega) (by omega)
  rw [e0]
  obtain ⟨jn, hj, hQ⟩ := while_inv (b := b) (fun n s => n = (s.2 + 1).toNat ∧ ∃ j : Nat, j ≤ cells.length ∧ s.1 = zfrom cells j ∧ s.2 = (j : Int) - 1 ∧ nextC (sizes.drop j) (cells.drop j) = none)
    (fun jn => ∃ j : Nat, j ≤ cells.length ∧ jn = .nx (zfrom cells j, (j : Int) - 1) ∧ (j = 0 → nextC sizes cells = none) ∧ (∀ k, j = k + 1 → ∃ hk : k < cells.length, nextC sizes cells = some ((zfrom cells (k + 1)).set k (cells[k] + 1))))
    (by
      rintro n ⟨out, i⟩ ⟨hn, j, hj, ho, hi, hnone⟩
      simp only at ho hi hn
      subst ho hi
      cases j with
      | zero =>
        refine ⟨.brk (zfrom cells 0, ((0 : Nat) : Int) - 1), ?_, 0, Nat.zero_le _, rfl, fun _ => by simpa using hnone, fun k hk => by omega⟩
        rw [hb, if_neg (by simp)]; rfl
      | succ j =>
        have hjl : j < cells.length := by omega
        have hbd := fit_get hf hjl
        have e : (((j + 1 : Nat) : Int) - 1) = (j : Int) := by omega
        rw [e]
        have hbody : b (zfrom cells (j + 1), (j : Int)) = if cells[j] == sizes[j]'(by omega) then some (.cont (zfrom cells j, (j : Int) - 1)) else some (.brk (zfrom cells (j + 1), (j : Int))) := by
          rw [hb, if_pos (by simp), idx_nat, zfrom_get cells j hjl, idx_lt (show j < sizes.length by omega)]
          simp only [Option.bind_some]
          rw [i64_id (n := (j : Int) - 1) (by omega) (by omega), Int.toNat_natCast, zfrom_zero cells j hjl]
        rw [hbody]
        by_cases he : cells[j] = sizes[j]'(by omega)
        · exact ⟨.cont (zfrom cells j, (j : Int) - 1), by rw [if_pos (by simpa using he)], ((j : Int) - 1 + 1).toNat, by omega, rfl, j, by omega, rfl, rfl, next_no hf hjl hnone (by omega)⟩
        · refine ⟨.brk (zfrom cells (j + 1), (j : Int)), by rw [if_neg (by simpa using he)], j + 1, by omega, by rw [e], fun h => by omega, fun k hk => ?_⟩
          obtain rfl : j = k := by omega
          exact ⟨hjl, next_up hf hjl hnone (by omega)⟩)
    fu ((cells.length : Int) - 1 + 1).toNat (cells, (cells.length : Int) - 1) ⟨rfl, cells.length, Nat.le_refl _, by simp [zfrom], rfl, next_end hf⟩ (by unfold FU at hfu; omega)
  obtain ⟨j, h1, rfl, h2, h3⟩ := hQ
  exact ⟨j, h1, hj, h2, h3⟩
/-! how many cells are left -/
def prodS : List Int → Nat
  | [] => 1
  | s :: ss => (s.toNat + 1) * prodS ss
def rem : List Int → List Int → Nat
  | s :: ss, c :: cs => (s - c).toNat * prodS ss + rem ss cs
  | _, _ => 0
theorem prodS_pos : ∀ ss, 0 < prodS ss
  | [] => Nat.one_pos
  | s :: ss => Nat.mul_pos (Nat.succ_pos _) (prodS_pos ss)
theorem fit_zeros : ∀ (ss : List Int), (∀ s ∈ ss, 0 ≤ s) → fit ss (List.replicate ss.length 0) ∧ rem ss (List.replicate ss.length 0) + 1 = prodS ss
  | [], _ => ⟨trivial, rfl⟩
  | s :: ss, h => by
    obtain ⟨h1, h2⟩ := fit_zeros ss fun x hx => h x (by simp [hx])
    have hs := h s (by simp)
    refine ⟨⟨⟨Int.le_refl _, hs⟩, h1⟩, ?_⟩
    show (s - 0).toNat * prodS ss + rem ss (List.replicate ss.length 0) + 1 = (s.toNat + 1) * prodS ss
    rw [Nat.add_mul, Int.sub_zero]; omega
theorem fit_nonneg : ∀ {ss cs : List Int}, fit ss cs → ∀ s ∈ ss, 0 ≤ s
  | [], _, _, s, hs => by simp at hs
  | s :: ss, [], h, _, _ => by simp [fit] at h
  | s :: ss, c :: cs, h, x, hx => by
    rcases List.mem_cons.1 hx with rfl | hx
    · have := h.1; omega
    · exact fit_nonneg h.2 x hx
theorem next_none : ∀ {ss cs : List Int}, fit ss cs → nextC ss cs = none → rem ss cs = 0
  | [], [], _, _ => rfl
  | [], _ :: _, h, _ => by simp [fit] at h
  | s :: ss, [], h, _ => by simp [fit] at h
  | s :: ss, c :: cs, h, hn => by
    obtain ⟨h0, h1⟩ := h
    unfold nextC at hn
    cases hm : nextC ss cs with
    | some t => rw [hm] at hn; simp at hn
    | none =>
      rw [hm] at hn
      simp at hn
      have := next_none h1 hm
      show (s - c).toNat * prodS ss + rem ss cs = 0
      rw [this, show (s - c).toNat = 0 from by omega]; simp
theorem next_some : ∀ {ss cs t : List Int}, fit ss cs → nextC ss cs = some t → fit ss t ∧ rem ss cs = rem ss t + 1
  | [], [], _, _, hn => by simp [nextC] at hn
  | [], _ :: _, _, h, _ => by simp [fit] at h
  | s :: ss, [], _, h, _ => by simp [fit] at h
  | s :: ss, c :: cs, t, h, hn => by
    obtain ⟨h0, h1⟩ := h
    unfold nextC at hn
    cases hm : nextC ss cs with
    | some t' =>
      rw [hm] at hn
      simp at hn
      subst hn
      obtain ⟨h2, h3⟩ := next_some h1 hm
      refine ⟨⟨h0, h2⟩, ?_⟩
      show (s - c).toNat * prodS ss + rem ss cs = (s - c).toNat * prodS ss + rem ss t' + 1
      omega
    | none =>
      rw [hm] at hn
      simp only at hn
      split at hn
      · rename_i hlt
        injection hn with hn
        subst hn
        have hz := fit_zeros ss (fit_nonneg h1)
        have hl := fit_len h1
        rw [← hl] at hz
        refine ⟨⟨⟨by omega, by omega⟩, hz.1⟩, ?_⟩
        have hr := next_none h1 hm
        show (s - c).toNat * prodS ss + rem ss cs = (s - (c + 1)).toNat * prodS ss + rem ss (List.replicate cs.length 0) + 1
        have h2 := hz.2
        rw [hr, show (s - c).toNat = (s - (c + 1)).toNat + 1 from by omega, Nat.add_mul]
        omega
      · cases hn
theorem prodS_bound : ∀ (ss : List Int), ss.all qSize = true → prodS ss ≤ 4 ^ ss.length
  | [], _ => by simp [prodS]
  | s :: ss, h => by
    rw [List.all_cons, Bool.and_eq_true] at h
    have h1 := qSize_iff.1 h.1
    have h2 := prodS_bound ss h.2
    show (s.toNat + 1) * prodS ss ≤ 4 ^ (ss.length + 1)
    rw [Nat.pow_succ, Nat.mul_comm (4 ^ ss.length)]
    exact Nat.mul_le_mul (by omega) h2
theorem rem_lt : ∀ {ss cs : List Int}, fit ss cs → rem ss cs < prodS ss
  | [], [], _ => by simp [rem, prodS]
  | [], _ :: _, h => by simp [fit] at h
  | s :: ss, [], h => by simp [fit] at h
  | s :: ss, c :: cs, h => by
    have h1 := rem_lt h.2
    have h0 := h.1
    show (s - c).toNat * prodS ss + rem ss cs < (s.toNat + 1) * prodS ss
    have : (s - c).toNat * prodS ss ≤ s.toNat * prodS ss := Nat.mul_le_mul_right _ (by omega)
    rw [Nat.add_mul]; omega
theorem rem_small {ss cs : List Int} (hf : fit ss cs) (h3 : ss.all qSize = true) (h5 : ss.length ≤ 5) : rem ss cs < 1024 := by
  have h1 := rem_lt hf
  have h2 := prodS_bound ss h3
  have h4 : 4 ^ ss.length ≤ 4 ^ 5 := Nat.pow_le_pow_right (by omega) h5
  omega
/-- all cells from some on, in order -/
def enumFrom (ss : List Int) : Nat → List Int → List (List Int)
  | 0, _ => []
  | k + 1, cs => cs :: (match nextC ss cs with | some t => enumFrom ss k t | none => [])
def enumC (ss cs : List Int) : List (List Int) := enumFrom ss (rem ss cs + 1) cs
theorem enum_some {ss cs t : List Int} (hf : fit ss cs) (h : nextC ss cs = some t) : enumC ss cs = cs :: enumC ss t := by
  have h2 := (next_some hf h).2
  unfold enumC
  rw [enumFrom, h, h2]
theorem enum_none {ss cs : List Int} (hf : fit ss cs) (h : nextC ss cs = none) : enumC ss cs = [cs] := by
  unfold enumC
  rw [enumFrom, h]
theorem enum_len : ∀ (k : Nat) {ss cs : List Int}, rem ss cs = k → fit ss cs → (enumC ss cs).length = k + 1 := by
  intro k
  induction k with
  | zero =>
    intro ss cs hk hf
    cases h : nextC ss cs with
    | none => rw [enum_none hf h]; rfl
    | some t => have := (next_some hf h).2; omega
  | succ k ih =>
    intro ss cs hk hf
    cases h : nextC ss cs with
    | none => have := next_none hf h; omega
    | some t =>
      have := next_some hf h
      rw [enum_some hf h, List.length_cons, ih (by omega) this.1]
/-- how many of the cells from some on solve -/
def countFrom (m : Model) (cs : List Int) : Nat := (enumC m.sizes cs).countP (solves m)
theorem count_some {m : Model} {cs t : List Int} (hf : fit m.sizes cs) (h : nextC m.sizes cs = some t) : countFrom m cs = (if solves m cs then 1 else 0) + countFrom m t := by
  unfold countFrom
  rw [enum_some hf h, List.countP_cons]
  omega
theorem count_none {m : Model} {cs : List Int} (hf : fit m.sizes cs) (h : nextC m.sizes cs = none) : countFrom m cs = (if solves m cs then 1 else 0) := by
  unfold countFrom
  rw [enum_none hf h, List.countP_cons]
  simp
def zeros (m : Model) : List Int := List.replicate m.sizes.length 0
/-- what CountModel answers -/
def countModel (m : Model) : Nat := if okModel m then countFrom m (zeros m) else 0
theorem okModel_zeros {m : Model} (h : okModel m = true) : fit m.sizes (zeros m) := (fit_zeros m.sizes fun s hs => by
  have := List.all_eq_true.1 (okModel_parts h).2.2.1 s hs
  exact (qSize_iff.1 this).1).1
theorem countFrom_le {m : Model} {cs : List Int} (hf : fit m.sizes cs) : countFrom m cs ≤ rem m.sizes cs + 1 := by
  unfold countFrom
  rw [← enum_len _ rfl hf]
  exact List.countP_le_length
theorem s_count (m : Model) (h : smallM m) (fu : Nat) (hfu : FU ≤ fu) : s_CountModel fu m = some (countModel m : Int) := by
  unfold s_CountModel countModel
  rw [s_model m h fu hfu, Option.bind_some]
  cases hok : okModel m with
  | false => rfl
  | true =>
    obtain ⟨h1, h5, ha, _⟩ := okModel_parts hok
    have hz := okModel_zeros hok
    rw [mkN_le _ (by omega)]
    simp only [Bool.not_true, ite_false', Option.bind_some, if_true]
    obtain ⟨j, hj, hQ⟩ := while_inv (b := s_CountModel_b1 fu m) (fun k s => ∃ n : Nat, s.1 = (n : Int) ∧ s.2.1.length ≤ 5 ∧ n ≤ 2000 ∧
        ((s.2.2 = true ∧ fit m.sizes s.2.1 ∧ k = rem m.sizes s.2.1 + 1 ∧ n + countFrom m s.2.1 = countFrom m (zeros m)) ∨ (s.2.2 = false ∧ k = 0 ∧ n = countFrom m (zeros m))))
      (fun j => match j with | .nx s => s.1 = (countFrom m (zeros m) : Int) | .out t => False)
      (by
        rintro k ⟨n0, cs, more⟩ ⟨n, hn, hl, hn2, hc⟩
        simp only at hn hl hc
        subst hn
        rcases hc with ⟨rfl, hf, rfl, ht⟩ | ⟨rfl, rfl, ht⟩
        · have hr := rem_small hf ha h5
          have hle := countFrom_le hz
          have hrz := rem_small hz ha h5
          have hsol := s_solves h hok (cellsIn_fit.2 hf)
          have hnx := s_next m cs hf hl ha fu hfu
          have hbody : s_CountModel_b1 fu m ((n : Int), cs, true) = some (.cont (((n + if solves m cs then 1 else 0 : Nat) : Int), (match nextC m.sizes cs with | some c => (c, true) | none => (List.replicate cs.length 0, false)).1, (match nextC m.sizes cs with | some c => (c, true) | none => (List.replicate cs.length 0, false)).2)) := by
            simp only [s_CountModel_b1, if_true, hsol, Option.bind_some, hnx]
            cases solves m cs with
            | true => simp only [if_true, Option.bind_some]; rw [i64_id (by omega) (by omega)]; rfl
            | false => simp only [ite_false', Option.bind_some]; rfl
          refine ⟨_, hbody, ?_⟩
          cases hm : nextC m.sizes cs with
          | some t =>
            obtain ⟨hft, hrt⟩ := next_some hf hm
            have hcs := count_some hf hm
            refine ⟨rem m.sizes t + 1, by omega, _, rfl, by rw [fit_len hft]; exact h5, ?_, .inl ⟨rfl, hft, rfl, ?_⟩⟩
            · have : n + (if solves m cs then 1 else 0) ≤ countFrom m (zeros m) := by omega
              omega
            · show n + (if solves m cs then 1 else 0) + countFrom m t = _; omega
          | none =>
            have hcs := count_none hf hm
            refine ⟨0, by omega, _, rfl, by simpa using hl, ?_, .inr ⟨rfl, rfl, ?_⟩⟩
            · have : n + (if solves m cs then 1 else 0) ≤ countFrom m (zeros m) := by omega
              omega
            · show n + (if solves m cs then 1 else 0) = _; omega
        · refine ⟨.brk ((n : Int), cs, false), rfl, ?_⟩
          show ((n : Int)) = _
          rw [ht])
      fu (rem m.sizes (zeros m) + 1) (0, zeros m, true) ⟨0, rfl, by rw [fit_len hz]; exact h5, by omega, .inl ⟨rfl, hz, rfl, Nat.zero_add _⟩⟩ (by have := rem_small hz ha h5; unfold FU at hfu; omega)
    have hj' : whileL (s_CountModel_b1 fu m) fu (0, List.replicate m.sizes.length 0, true) = some j := hj
    rw [hj']
    cases j with
    | nx s => obtain ⟨a, b, c⟩ := s; simp only at hQ; rw [Option.bind_some]; simp only [hQ]
    | out t => exact hQ.elim
theorem clone_int (xs : List Int) (h : xs.length ≤ 4294967296) : slices_Clone_int xs = some xs := by
  unfold slices_Clone_int
  rw [app_le (by simpa using h)]
  rfl
theorem i_count (m : Model) (h : smallM m) (fu : Nat) (hfu : FU ≤ fu) : i_CountModel fu m = some (countModel m : Int) := by
  unfold i_CountModel countModel
  rw [i_model m h, Option.bind_some]
  cases hok : okModel m with
  | false => rfl
  | true =>
    obtain ⟨h1, h5, ha, _⟩ := okModel_parts hok
    have hz := okModel_zeros hok
    rw [mkN_le _ (by omega)]
    simp only [Bool.not_true, ite_false', Option.bind_some, if_true]
    unfold i_CountModel_i1
    rw [clone_int _ (by simp; omega), Option.bind_some]
    obtain ⟨j, hj, hQ⟩ := while_inv (b := i_CountModel_b2 fu m) (fun k s => ∃ n : Nat, s.2 = (n : Int) ∧ n ≤ 2000 ∧ fit m.sizes s.1 ∧ k = rem m.sizes s.1 ∧ n + countFrom m s.1 = countFrom m (zeros m))
      (fun j => j = .out (countFrom m (zeros m) : Int))
      (by
        rintro k ⟨cs, n0⟩ ⟨n, hn, hn2, hf, rfl, ht⟩
        simp only at hn hf ht
        subst hn
        have hr := rem_small hf ha h5
        have hle := countFrom_le hz
        have hrz := rem_small hz ha h5
        have hl := fit_len hf
        have hsol := i_solves h hok (cellsIn_fit.2 hf)
        obtain ⟨j, hjl, hw, hj0, hjs⟩ := i_step m.sizes cs hf (by omega) fu hfu (b := i_CountModel_b4 m) (fun _ _ => rfl)
        have hi3 : i_CountModel_i3 m cs (n : Int) = some (true, ((n + if solves m cs then 1 else 0 : Nat) : Int)) := by
          unfold i_CountModel_i3
          rw [hsol, Option.bind_some]
          cases solves m cs with
          | true => simp only [if_true, Option.bind_some]; rw [i64_id (by omega) (by omega)]; rfl
          | false => simp only [ite_false', Option.bind_some]; rfl
        have hbody : i_CountModel_b2 fu m (cs, (n : Int)) = (if decide (((j : Int) - 1) < 0) then (some (.out ((n + if solves m cs then 1 else 0 : Nat) : Int))) else ((idx (zfrom cs j) ((j : Int) - 1)).bind fun x => some (.cont (((zfrom cs j).set (Int.toNat ((j : Int) - 1)) (i64 (x + 1))), ((n + if solves m cs then 1 else 0 : Nat) : Int))))) := by
          show (i_CountModel_i3 m cs (n : Int)).bind _ = _
          rw [hi3, Option.bind_some]
          simp only [if_true]
          rw [hw, Option.bind_some]
        rw [hbody]
        cases j with
        | zero =>
          have hcs := count_none hf (hj0 rfl)
          refine ⟨_, by rw [if_pos (by simp)], ?_⟩
          show Jn.out _ = _
          congr 2; omega
        | succ k =>
          obtain ⟨hk, hnx⟩ := hjs k rfl
          have hcs := count_some hf hnx
          obtain ⟨hft, hrt⟩ := next_some hf hnx
          have hb := fit_get hf hk
          have hs := sizes_get ha (i := k) (by omega)
          have e : (((k + 1 : Nat) : Int) - 1) = (k : Int) := by omega
          rw [e, if_neg (by simp), idx_nat, zfrom_get cs k hk, Option.bind_some, i64_id (by omega) (by omega), Int.toNat_natCast]
          refine ⟨_, rfl, rem m.sizes ((zfrom cs (k + 1)).set k (cs[k] + 1)), ?_, n + (if solves m cs then 1 else 0), rfl, ?_, hft, rfl, ?_⟩
          · show _ < rem m.sizes cs
            omega
          · have : n + (if solves m cs then 1 else 0) ≤ countFrom m (zeros m) := by omega
            omega
          · show n + (if solves m cs then 1 else 0) + countFrom m ((zfrom cs (k + 1)).set k (cs[k] + 1)) = _
            omega)
      fu (rem m.sizes (zeros m)) (zeros m, 0) ⟨0, rfl, by omega, hz, rfl, Nat.zero_add _⟩ (by have := rem_small hz ha h5; unfold FU at hfu; omega)
    have hj' : whileL (i_CountModel_b2 fu m) fu (List.replicate m.sizes.length 0, 0) = some j := hj
    rw [hj', hQ]
    rfl
end Go.L
