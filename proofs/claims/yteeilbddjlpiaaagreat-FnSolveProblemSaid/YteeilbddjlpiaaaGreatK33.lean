/- Equality of constraints; the parts of a step; the state of a proof; a step, on both sides. -/
import Derived.Test.YteeilbddjlpiaaaGreatK32
namespace Go.L
open Go Go.E
set_option linter.unusedVariables false
set_option linter.unusedSimpArgs false
set_option maxRecDepth 100000
theorem equal_list {α : Type} [DecidableEq α] (s1 s2 : List α) {b : Nat → α → Unit → Option (Lo Unit Bool)} (hb : ∀ (i : Nat) x, b i x () = (idx s2 (i : Int)).bind fun y => if decide (x = y) then some (.cont ()) else some (.out false)) (hl : s1.length = s2.length) :
    rangeL b s1 0 () = some (if decide (s1 = s2) then .nx () else .out false) := by
  rw [range_allI (fun i x => decide (s2[i]? = some x)) false s1 fun i x hx => by
    have hi := (List.getElem?_eq_some_iff.1 hx).1
    have h2 : i < s2.length := by omega
    rw [hb, idx_nat, List.getElem?_eq_getElem h2, Option.bind_some]
    by_cases h : x = s2[i]
    · simp [h]
    · simp [h, Ne.symm h]]
  congr 2
  have : allFrom (fun i x => decide (s2[i]? = some x)) s1 0 = decide (s1 = s2) := by
    rw [Bool.eq_iff_iff, allFrom_iff]
    simp only [decide_eq_true_eq, Nat.zero_add]
    constructor
    · intro h
      apply List.ext_getElem?
      intro i
      cases h1 : s1[i]? with
      | some x => rw [h i x h1]
      | none => rw [List.getElem?_eq_none_iff] at h1; rw [List.getElem?_eq_none (by omega)]
    · intro h i x hx
      rw [← h]; exact hx
  rw [this]
theorem i_equal (s1 s2 : List Term) : slices_Equal_implTerm s1 s2 = some (decide (s1 = s2)) := by
  unfold slices_Equal_implTerm
  by_cases hl : s1.length = s2.length
  · rw [if_neg (by simp [hl]), equal_list s1 s2 (b := slices_Equal_implTerm_b1 s2) (fun i x => by
      rw [slices_Equal_implTerm_b1]
      congr 1
      funext y
      by_cases h : x = y <;> simp [h]) hl]
    by_cases h : s1 = s2 <;> simp [h]
  · rw [if_pos (by simp; omega), decide_eq_false (by intro h; rw [h] at hl; exact hl rfl)]
theorem i_same (a b : Con) : i_ConstraintSame a b = some (decide (a = b)) := by
  unfold i_ConstraintSame
  rw [i_equal]
  obtain ⟨t1, b1⟩ := a
  obtain ⟨t2, b2⟩ := b
  by_cases h1 : b1 = b2
  · by_cases h2 : t1 = t2 <;> simp [h1, h2]
  · simp [h1]
def falseC (c : Con) : Bool := okCon c && decide (tot c < c.bound)
theorem i_false (c : Con) : i_ConstraintFalse c = some (falseC c) := by
  unfold i_ConstraintFalse falseC
  rw [i_valid c, Option.bind_some]
  cases h : okCon c with
  | false => rfl
  | true => simp [i_total h]
/-! the parts of a step -/
def noC (c : Con) : Bool := ((c.terms.length : Int) == 0) && (c.bound == 0)
def partsB (s : Step) : Bool :=
  if s.kind = 1 ∨ s.kind = 2 ∨ s.kind = 3 ∨ s.kind = 5 then noC s.given
  else if s.kind = 4 ∨ s.kind = 6 ∨ s.kind = 8 then noC s.given && s.b == 0
  else if s.kind = 7 then s.a == 0 && s.b == 0 else false
theorem kind_cases (k : Int) : k = 1 ∨ k = 2 ∨ k = 3 ∨ k = 4 ∨ k = 5 ∨ k = 6 ∨ k = 7 ∨ k = 8 ∨ (k ≠ 1 ∧ k ≠ 2 ∧ k ≠ 3 ∧ k ≠ 4 ∧ k ≠ 5 ∧ k ≠ 6 ∧ k ≠ 7 ∧ k ≠ 8) := by omega
theorem noC_eq (c : Con) : decide (c = ⟨[], 0⟩) = noC c := by
  obtain ⟨ts, b⟩ := c
  unfold noC
  cases ts with
  | nil => by_cases h : b = 0 <;> simp [h]
  | cons t ts => simp; omega
def refersB (k : Int) : Int × Bool := if k = 1 then (2, false) else if k = 2 ∨ k = 3 ∨ k = 5 then (1, true) else if k = 4 ∨ k = 8 then (1, false) else if k = 6 ∨ k = 7 then (0, false) else (-1, false)
theorem i_ref (k : Int) : i_refers k = some (refersB k) := by
  unfold i_refers refersB
  rcases kind_cases k with h | h | h | h | h | h | h | h | ⟨h1, h2, h3, h4, h5, h6, h7, h8⟩
  all_goals first | (subst h; simp) | simp [h1, h2, h3, h4, h5, h6, h7, h8]
theorem i_shaped (s : Step) : i_Step_shaped s = some (partsB s) := by
  unfold i_Step_shaped partsB
  rw [i_ref, i_same, noC_eq, Option.bind_some]
  obtain ⟨kind, a, b, given⟩ := s
  simp only [refersB]
  rcases kind_cases kind with h | h | h | h | h | h | h | h | ⟨h1, h2, h3, h4, h5, h6, h7, h8⟩
  all_goals first | (subst h; (by_cases ha : a = 0) <;> (by_cases hb : b = 0) <;> simp [ha, hb]) | simp [h1, h2, h3, h4, h5, h6, h7, h8]
/-! the state of a proof -/
structure OkDb (d : Db) : Prop where
  len : d.gone.length = d.list.length
  ok : ∀ c ∈ d.list, okCon c = true
  big : d.list.length ≤ 2000
def liveD (d : Db) (k : Int) : Bool := decide (0 ≤ k) && (decide (k < (d.list.length : Int)) && !(d.gone.getD k.toNat true))
def keptL : List Con → List Bool → List Con
  | c :: cs, g :: gs => if g then keptL cs gs else c :: keptL cs gs
  | _, _ => []
def keptD (d : Db) : List Con := keptL d.list d.gone
theorem idx_b {gs : List Bool} {k : Int} (h0 : 0 ≤ k) (h1 : k < (gs.length : Int)) : idx gs k = some (gs.getD k.toNat true) := by
  have hl : k.toNat < gs.length := by omega
  rw [idx_get h0 hl, List.getD_eq_getElem?_getD, List.getElem?_eq_getElem hl]
  rfl
theorem i_has {d : Db} (hd : OkDb d) (k : Int) : i_running_has d k = some (liveD d k) := by
  have := hd.big
  unfold i_running_has liveD i_within
  rw [i64_id (by omega) (by omega), Option.bind_some]
  by_cases h0 : 0 ≤ k
  · by_cases h1 : k < (d.list.length : Int)
    · have h2 : k ≤ (d.list.length : Int) - 1 := by omega
      rw [idx_b h0 (by rw [hd.len]; exact h1)]
      simp [h0, h1, h2]
    · have h2 : ¬ k ≤ (d.list.length : Int) - 1 := by omega
      simp [h0, h1, h2]
  · simp [h0]
theorem keptL_snoc : ∀ (cs : List Con) (gs : List Bool) (c : Con) (g : Bool), gs.length = cs.length → keptL (cs ++ [c]) (gs ++ [g]) = keptL cs gs ++ (if g then [] else [c])
  | [], [], c, g, _ => by cases g <;> rfl
  | [], _ :: _, _, _, h => by simp at h
  | _ :: _, [], _, _, h => by simp at h
  | x :: cs, y :: gs, c, g, h => by
    have := keptL_snoc cs gs c g (by simpa using h)
    cases y <;> simp [keptL, this]
theorem keptL_len : ∀ (cs : List Con) (gs : List Bool), (keptL cs gs).length ≤ cs.length
  | [], _ => by simp [keptL]
  | _ :: _, [] => by simp [keptL]
  | x :: cs, y :: gs => by
    have := keptL_len cs gs
    cases y <;> simp [keptL] <;> omega
theorem keptL_mem : ∀ (cs : List Con) (gs : List Bool), ∀ c ∈ keptL cs gs, c ∈ cs
  | [], _, c, h => by simp [keptL] at h
  | _ :: _, [], c, h => by simp [keptL] at h
  | x :: cs, y :: gs, c, h => by
    rw [keptL] at h
    split at h
    · exact List.mem_cons_of_mem _ (keptL_mem cs gs c h)
    · rcases List.mem_cons.1 h with rfl | h
      · exact List.mem_cons_self
      · exact List.mem_cons_of_mem _ (keptL_mem cs gs c h)
theorem kept_loop {τ : Type} {d : Db} (hd : OkDb d) {b : Nat → Con → List Con → Option (Lo (List Con) τ)} (hb : ∀ (i : Nat) c out, b i c out = (idx d.gone (i : Int)).bind fun g => ((if (!g) then ((app out ([c])).bind fun x => some x) else (some out)) : Option (List Con)).bind fun o => some (.cont o)) :
    rangeL b d.list 0 [] = some (.nx (keptD d)) := by
  have hbig := hd.big
  have := range_to (b := b) (fun i => keptL (d.list.take i) (d.gone.take i)) d.list (by
    intro i c hc
    have hi := (List.getElem?_eq_some_iff.1 hc).1
    have hg : d.gone[i]? = some (d.gone.getD i true) := by
      have hl : i < d.gone.length := by rw [hd.len]; exact hi
      rw [List.getD_eq_getElem?_getD, List.getElem?_eq_getElem hl]; rfl
    have hk := keptL_len (d.list.take i) (d.gone.take i)
    rw [hb, idx_nat, hg, Option.bind_some, take_snoc hc, take_snoc hg, keptL_snoc _ _ _ _ (by simp [hd.len])]
    have hl : (d.list.take i).length ≤ 2000 := by simp; omega
    cases d.gone.getD i true with
    | true => simp
    | false => rw [app_le (by simp; omega)]; simp)
  have e0 : keptL (d.list.take 0) (d.gone.take 0) = [] := rfl
  rw [e0] at this
  rw [this, List.take_length, ← hd.len, List.take_length]
  rfl
theorem i_left {d : Db} (hd : OkDb d) : i_running_left d = some (keptD d) := by
  unfold i_running_left
  rw [kept_loop hd (b := i_running_left_b1 d) fun _ _ _ => rfl]
  rfl
/-! a step -/
def getC (d : Db) (k : Int) : Con := d.list.getD k.toNat zeroC
def deriveD (d : Db) (s : Step) : Con × Bool :=
  if s.kind = 6 then litC s.a
  else if s.kind = 7 then (s.given, okCon s.given && rupB (keptD d) s.given)
  else if liveD d s.a = false then (zeroC, false)
  else if s.kind = 1 then if liveD d s.b = false then (zeroC, false) else addC (getC d s.a) (getC d s.b)
  else if s.kind = 2 then mulC (getC d s.a) s.b
  else if s.kind = 3 then divC (getC d s.a) s.b
  else if s.kind = 4 then satC (getC d s.a)
  else weakC (getC d s.a) s.b
def pushD (d : Db) (c : Con) : Db := ⟨d.list ++ [c], d.gone ++ [false]⟩
def stepD (d : Db) (s : Step) : Option Db :=
  if partsB s = false then none
  else if s.kind = 8 then if liveD d s.a then some ⟨d.list, d.gone.set s.a.toNat true⟩ else none
  else if (deriveD d s).2 then some (pushD d (deriveD d s).1) else none
theorem live_idx {d : Db} (hd : OkDb d) {k : Int} (h : liveD d k = true) : idx d.list k = some (getC d k) ∧ okCon (getC d k) = true ∧ 0 ≤ k ∧ k < (d.list.length : Int) ∧ d.gone.getD k.toNat true = false := by
  unfold liveD at h
  simp at h
  obtain ⟨h0, h1, h2⟩ := h
  have hl : k.toNat < d.list.length := by omega
  have e : getC d k = d.list[k.toNat] := by unfold getC; rw [List.getD_eq_getElem?_getD, List.getElem?_eq_getElem hl]; rfl
  refine ⟨?_, ?_, h0, h1, by simpa using h2⟩
  · rw [idx_get h0 hl, e]
  · rw [e]; exact hd.ok _ (List.getElem_mem hl)
theorem kept_ok {d : Db} (hd : OkDb d) : (∀ c ∈ keptD d, okCon c = true) ∧ (keptD d).length ≤ 2000 := by
  have h1 := keptL_len d.list d.gone
  have := hd.big
  exact ⟨fun c hc => hd.ok c (keptL_mem _ _ c hc), by unfold keptD; omega⟩
theorem deriveD_ok {d : Db} (hd : OkDb d) {s : Step} {c : Con} (h : deriveD d s = (c, true)) : okCon c = true := by
  unfold deriveD at h
  split at h
  · exact (litC_ok h).1
  split at h
  · simp at h; rw [← h.1]; exact h.2.1
  split at h
  · cases h
  split at h
  · split at h
    · cases h
    · exact (addC_ok h).1
  split at h
  · exact (mulC_ok h).1
  split at h
  · exact (divC_ok h).1
  split at h
  · exact (satC_ok h).1
  · exact (weakC_ok h).1
end Go.L
