/- Cells as truth values, and back. -/
import Derived.Test.YteojddfaiomfmaaK6

namespace Go.L
open Go Go.E
set_option linter.unusedVariables false
set_option linter.unusedSimpArgs false
set_option maxRecDepth 100000

/-- the truth values of the first cells -/
def encL (m : Model) (cells : List Int) : Nat → List Bool
  | 0 => List.replicate 12 false
  | i + 1 => (encL m cells i).set (boolVar m i (cells.getD i 0) - 1).toNat true
theorem encL_len (m : Model) (cells : List Int) : ∀ i, (encL m cells i).length = 12
  | 0 => by simp [encL]
  | i + 1 => by rw [encL, List.length_set, encL_len m cells i]
def encode (m : Model) (cells : List Int) : List Bool × Bool := if okCells m cells then (encL m cells cells.length, true) else ([], false)
theorem cell_get {m : Model} {cells : List Int} (hc : cellsIn m cells = true) {i : Nat} {x : Int} (hx : cells[i]? = some x) : ∃ hi : i < m.sizes.length, cells.getD i 0 = x ∧ 0 ≤ x ∧ x ≤ m.sizes[i] := by
  obtain ⟨hl, h⟩ := cellsIn_iff.1 hc
  have hi := (List.getElem?_eq_some_iff.1 hx).1
  have hi2 : i < m.sizes.length := by omega
  have h2 := h i x hx
  refine ⟨hi2, by simp [List.getD_eq_getElem?_getD, hx], h2.1, ?_⟩
  have := h2.2
  simpa [List.getD_eq_getElem?_getD, hi2] using this
theorem enc_step {m : Model} {cells : List Int} (hok : okModel m = true) (hc : cellsIn m cells = true) {i : Nat} {x : Int} (hx : cells[i]? = some x) :
    (idx (encL m cells i) (i64 (boolVar m i x - 1))).bind (fun _ => some (Lo.cont ((encL m cells i).set (Int.toNat (i64 (boolVar m i x - 1))) true))) = (some (Lo.cont (encL m cells (i + 1))) : Option (Lo (List Bool) (List Bool × Bool))) := by
  obtain ⟨hi, hg, h0, h1⟩ := cell_get hc hx
  have hb := boolVar_range hok hi ⟨h0, h1⟩
  rw [i64_id (by omega) (by omega), idx_get (by omega) (by rw [encL_len]; omega), Option.bind_some]
  rw [encL, hg]
theorem s_encode (m : Model) (h : smallM m) (fu : Nat) (hf : FU ≤ fu) (cells : List Int) : s_EncodeCells fu m cells = some (encode m cells) := by
  unfold s_EncodeCells encode
  rw [s_cells m h fu hf, Option.bind_some]
  cases hc : okCells m cells with
  | false => rfl
  | true =>
    obtain ⟨hok, hci⟩ := okCells_parts hc
    obtain ⟨h1, h5, ha, _⟩ := okModel_parts hok
    have hl := range_to (b := s_EncodeCells_b1 m) (fun i => encL m cells i) cells (by
      intro i x hx
      obtain ⟨hi, hg, h0, h1⟩ := cell_get hci hx
      have hs := sizes_get ha hi
      show (s_l7Var m (i : Int) x).bind _ = _
      rw [s_var m i x (by omega) h5 ha ⟨h0, by omega⟩, Option.bind_some]
      exact enc_step hok hci hx)
    simp only [Bool.not_true, Bool.false_eq_true, if_false, if_true]
    have hm : mkN (12 : Int) false = some (List.replicate 12 false) := mkN_le (n := 12) false (by omega)
    rw [hm, Option.bind_some]
    show ((rangeL (s_EncodeCells_b1 m) cells 0 (encL m cells 0)).bind _) = _
    rw [hl]; rfl
theorem i_encode (m : Model) (h : smallM m) (cells : List Int) : i_EncodeCells m cells = some (encode m cells) := by
  unfold i_EncodeCells encode
  rw [i_cells m h, Option.bind_some]
  cases hc : okCells m cells with
  | false => rfl
  | true =>
    obtain ⟨hok, hci⟩ := okCells_parts hc
    obtain ⟨h1, h5, ha, _⟩ := okModel_parts hok
    have hl := range_to (b := i_EncodeCells_b1 m) (fun i => encL m cells i) cells (by
      intro i x hx
      obtain ⟨hi, hg, h0, h1⟩ := cell_get hci hx
      have hs := sizes_get ha hi
      show (i_Model_boolVar m (i : Int) x).bind _ = _
      rw [i_var m i x (by omega) h5 ha ⟨h0, by omega⟩, Option.bind_some]
      exact enc_step hok hci hx)
    simp only [Bool.not_true, Bool.false_eq_true, if_false, if_true]
    have hm : mkN (12 : Int) false = some (List.replicate 12 false) := mkN_le (n := 12) false (by omega)
    rw [hm, Option.bind_some]
    show ((rangeL (i_EncodeCells_b1 m) cells 0 (encL m cells 0)).bind _) = _
    rw [hl]; rfl
/-- the values of a cell that are true -/
def isOn (m : Model) (values : List Bool) (c v : Nat) : Bool := values.getD (boolVar m c v - 1).toNat false
def onTo (m : Model) (values : List Bool) (c : Nat) (k : Nat) : List Int := ((List.range k).filter (isOn m values c)).map (fun (v : Nat) => (v : Int))
theorem onTo_succ (m : Model) (values : List Bool) (c k : Nat) : onTo m values c (k + 1) = onTo m values c k ++ (if isOn m values c k then [(k : Int)] else []) := by
  unfold onTo
  rw [List.range_succ, List.filter_append, List.map_append]
  congr 1
  cases h : isOn m values c k <;> simp [h]
theorem onTo_len (m : Model) (values : List Bool) (c k : Nat) : (onTo m values c k).length ≤ k := by
  unfold onTo
  rw [List.length_map]
  have := List.length_filter_le (isOn m values c) (List.range k)
  simpa using this
def onAll (m : Model) (values : List Bool) (c : Nat) : List Int := onTo m values c ((m.sizes.getD c 0).toNat + 1)
/-- the cells read off, up to the first that has not one value -/
def decFrom (m : Model) (values : List Bool) : Nat → Nat → List Int → List Int × Bool
  | 0, _, out => (out, true)
  | k + 1, c, out => if (onAll m values c).length = 1 then decFrom m values k (c + 1) (out ++ onAll m values c) else ([], false)
def decode (m : Model) (values : List Bool) : List Int × Bool := if okModel m && ((values.length : Int) == 12) then decFrom m values m.sizes.length 0 [] else ([], false)
theorem dec_loop {m : Model} {values : List Bool} {b : Nat → Int → List Int → Option (Lo (List Int) (List Int × Bool))}
    (hb : ∀ i x out, m.sizes[i]? = some x → out.length = i → b i x out = some (if (onAll m values i).length = 1 then .cont (out ++ onAll m values i) else .out ([], false))) :
    ∀ (xs : List Int) (i : Nat) (out : List Int), m.sizes.drop i = xs → out.length = i → i + xs.length = m.sizes.length →
      rangeL b xs i out = some (if (decFrom m values xs.length i out).2 then .nx (decFrom m values xs.length i out).1 else .out ([], false)) ∧ ((decFrom m values xs.length i out).2 = false → decFrom m values xs.length i out = ([], false)) := by
  intro xs
  induction xs with
  | nil => intro i out _ _ _; exact ⟨rfl, nofun⟩
  | cons x xs ih =>
    intro i out hd ho hl
    have hx := drop_idx hd
    rw [idx_nat] at hx
    show ((b i x out).bind _) = _ ∧ _
    rw [hb i x out hx ho]
    show _ ∧ ((decFrom m values (xs.length + 1) i out).2 = false → decFrom m values (xs.length + 1) i out = ([], false))
    rw [List.length_cons, decFrom]
    by_cases h1 : (onAll m values i).length = 1
    · rw [if_pos h1, if_pos h1]
      exact ih (i + 1) _ (drop_next hd) (by rw [List.length_append, h1, ho]) (by simp at hl; omega)
    · rw [if_neg h1, if_neg h1]
      exact ⟨rfl, fun _ => rfl⟩
theorem val_read {m : Model} {values : List Bool} (hok : okModel m = true) (hv : values.length = 12) {c : Nat} (hc : c < m.sizes.length) {v : Nat} (hv2 : (v : Int) ≤ m.sizes[c]) : idx values (i64 (boolVar m c v - 1)) = some (isOn m values c v) := by
  have hb := boolVar_range hok hc ⟨Int.natCast_nonneg v, hv2⟩
  have hl : (boolVar m c v - 1).toNat < values.length := by omega
  rw [i64_id (by omega) (by omega), idx_get (by omega) hl]
  unfold isOn
  rw [List.getD_eq_getElem?_getD, List.getElem?_eq_getElem hl]
  rfl
theorem onAll_eq {m : Model} {values : List Bool} {c : Nat} {x : Int} (hx : m.sizes[c]? = some x) : onAll m values c = onTo m values c (x.toNat + 1) := by
  unfold onAll
  rw [List.getD_eq_getElem?_getD, hx]
  rfl
theorem s_round {m : Model} {values : List Bool} (hok : okModel m = true) (hv : values.length = 12) (i : Nat) (x : Int) (out : List Int) (hx : m.sizes[i]? = some x) (ho : out.length = i) :
    s_DecodeValues_b1 m values i x out = some (if (onAll m values i).length = 1 then .cont (out ++ onAll m values i) else .out ([], false)) := by
  obtain ⟨h1, h5, ha, _⟩ := okModel_parts hok
  have hi := (List.getElem?_eq_some_iff.1 hx).1
  have hxe : m.sizes[i] = x := (List.getElem?_eq_some_iff.1 hx).2
  have hs := sizes_get ha hi
  show (cntF 0 (x + 1)).bind _ = _
  have hk : cntF 0 (x + 1) = some (x.toNat + 1) := by rw [cntF_of (by omega) (by omega)]; congr 1; omega
  rw [hk, Option.bind_some]
  have h := count_to (b := s_DecodeValues_b2 m values i) (fun j => ((onTo m values i j).getLastD (-1), ((onTo m values i j).length : Int))) (x.toNat + 1) 0 (by
    intro j _ hj
    have hvar := s_var m i (j : Int) (by omega) h5 ha ⟨by omega, by omega⟩
    have hrd := val_read hok hv hi (v := j) (by omega)
    show (s_l7Var m (i : Int) (j : Int)).bind _ = _
    rw [hvar, Option.bind_some, hrd, Option.bind_some, onTo_succ]
    have hl := onTo_len m values i j
    cases isOn m values i j with
    | false => simp
    | true =>
      simp only [if_true, Option.bind_some]
      rw [i64_id (by omega) (by omega)]
      simp)
  have e0 : ((onTo m values i 0).getLastD (-1), ((onTo m values i 0).length : Int)) = ((-1 : Int), (0 : Int)) := rfl
  rw [e0, Nat.zero_add, ← onAll_eq hx] at h
  rw [h]
  simp only [Option.bind_some]
  by_cases hc : (onAll m values i).length = 1
  · obtain ⟨y, hy⟩ := List.length_eq_one_iff.1 hc
    rw [hy]
    simp only [List.length_singleton, Int.natCast_one, bne_self_eq_false, Bool.false_eq_true, if_false, if_true]
    rw [app_le (by simp; omega)]
    rfl
  · rw [if_neg hc, if_pos (by simp; omega)]
theorem i_varsOf {m : Model} (hok : okModel m = true) {i : Nat} {x : Int} (hx : m.sizes[i]? = some x) : i_Model_varsOf m (i : Int) = some ((List.range (x.toNat + 1)).map fun (v : Nat) => boolVar m i (v : Int)) := by
  obtain ⟨h1, h5, ha, _⟩ := okModel_parts hok
  have hi := (List.getElem?_eq_some_iff.1 hx).1
  have hxe : m.sizes[i] = x := (List.getElem?_eq_some_iff.1 hx).2
  have hs := sizes_get ha hi
  unfold i_Model_varsOf
  rw [idx_lt hi, hxe, Option.bind_some, i64_id (by omega) (by omega)]
  have hk : cntF 0 (x + 1) = some (x.toNat + 1) := by rw [cntF_of (by omega) (by omega)]; congr 1; omega
  rw [hk, Option.bind_some]
  have h := count_to (b := i_Model_varsOf_b1 m (i : Int)) (fun j => (List.range j).map fun (v : Nat) => boolVar m i (v : Int)) (x.toNat + 1) 0 (by
    intro j _ hj
    have hvar := i_var m i (j : Int) (by omega) h5 ha ⟨by omega, by omega⟩
    show (i_Model_boolVar m (i : Int) (j : Int)).bind _ = _
    rw [hvar, Option.bind_some, app_le (by simp; omega), List.range_succ, List.map_append]
    rfl)
  rw [Nat.zero_add] at h
  have e0 : (List.range 0).map (fun (v : Nat) => boolVar m i (v : Int)) = [] := rfl
  rw [e0] at h
  rw [h]; rfl
theorem i_round {m : Model} {values : List Bool} (hok : okModel m = true) (hv : values.length = 12) (i : Nat) (x : Int) (out : List Int) (hx : m.sizes[i]? = some x) (ho : out.length = i) :
    i_DecodeValues_b1 m values i x out = some (if (onAll m values i).length = 1 then .cont (out ++ onAll m values i) else .out ([], false)) := by
  obtain ⟨h1, h5, ha, _⟩ := okModel_parts hok
  have hi := (List.getElem?_eq_some_iff.1 hx).1
  have hxe : m.sizes[i] = x := (List.getElem?_eq_some_iff.1 hx).2
  have hs := sizes_get ha hi
  show (i_Model_varsOf m (i : Int)).bind _ = _
  rw [i_varsOf hok hx, Option.bind_some]
  have h := range_to (b := i_DecodeValues_b2 values) (fun j => (out ++ onTo m values i j, ((onTo m values i j).length : Int))) ((List.range (x.toNat + 1)).map fun (v : Nat) => boolVar m i (v : Int)) (by
    intro j y hy
    have hj : j < x.toNat + 1 := by have := (List.getElem?_eq_some_iff.1 hy).1; simpa using this
    obtain rfl : boolVar m i (j : Int) = y := by simpa [hj] using hy
    have hrd := val_read hok hv hi (v := j) (by omega)
    show (idx values (i64 (boolVar m i (j : Int) - 1))).bind _ = _
    rw [hrd, Option.bind_some, onTo_succ]
    have hl := onTo_len m values i j
    cases isOn m values i j with
    | false => simp
    | true =>
      simp only [if_true]
      rw [app_le (by simp; omega), Option.bind_some, i64_id (by omega) (by omega)]
      simp)
  have e0 : (out ++ onTo m values i 0, ((onTo m values i 0).length : Int)) = (out, (0 : Int)) := by simp [onTo]
  rw [e0, List.length_map, List.length_range, ← onAll_eq hx] at h
  rw [h]
  simp only [Option.bind_some]
  by_cases hc : (onAll m values i).length = 1
  · rw [if_pos hc, if_neg (by simp [hc])]
  · rw [if_neg hc, if_pos (by simp; omega)]
theorem s_decode (m : Model) (h : smallM m) (fu : Nat) (hf : FU ≤ fu) (values : List Bool) : s_DecodeValues fu m values = some (decode m values) := by
  unfold s_DecodeValues decode
  rw [s_model m h fu hf, Option.bind_some]
  cases hok : okModel m with
  | false => rfl
  | true =>
    by_cases hv : values.length = 12
    · have e1 : ((!true) || ((values.length : Int) != 12)) = false := by simp [hv]
      have e2 : (true && ((values.length : Int) == 12)) = true := by simp [hv]
      rw [e1, e2]
      obtain ⟨hl, hz⟩ := dec_loop (b := s_DecodeValues_b1 m values) (fun i x out hx ho => s_round hok hv i x out hx ho) m.sizes 0 [] rfl rfl (by simp)
      simp only [Bool.false_eq_true, if_false, if_true]
      rw [hl]
      cases hd : (decFrom m values m.sizes.length 0 []).2 with
      | true => simp only [if_true, Option.bind_some]; rw [← hd]
      | false => rw [hz hd]; rfl
    · have e1 : ((!true) || ((values.length : Int) != 12)) = true := by simp; omega
      have e2 : (true && ((values.length : Int) == 12)) = false := by simp; omega
      rw [e1, e2]; rfl
theorem i_decode (m : Model) (h : smallM m) (values : List Bool) : i_DecodeValues m values = some (decode m values) := by
  unfold i_DecodeValues decode
  rw [i_model m h, Option.bind_some]
  cases hok : okModel m with
  | false => rfl
  | true =>
    by_cases hv : values.length = 12
    · have e1 : ((!true) || ((values.length : Int) != 12)) = false := by simp [hv]
      have e2 : (true && ((values.length : Int) == 12)) = true := by simp [hv]
      rw [e1, e2]
      obtain ⟨hl, hz⟩ := dec_loop (b := i_DecodeValues_b1 m values) (fun i x out hx ho => i_round hok hv i x out hx ho) m.sizes 0 [] rfl rfl (by simp)
      simp only [Bool.false_eq_true, if_false, if_true]
      rw [hl]
      cases hd : (decFrom m values m.sizes.length 0 []).2 with
      | true => simp only [if_true, Option.bind_some]; rw [← hd]
      | false => rw [hz hd]; rfl
    · have e1 : ((!true) || ((values.length : Int) != 12)) = true := by simp; omega
      have e2 : (true && ((values.length : Int) == 12)) = false := by simp; omega
      rw [e1, e2]; rfl
end Go.L
