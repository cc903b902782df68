/- Values as assignments; negation; reverse unit propagation is sound and monotonic. -/
import Derived.Test.YteeilbddjlpiaaaK26
namespace Go.L
open Go Go.E
set_option linter.unusedVariables false
set_option linter.unusedSimpArgs false
set_option maxRecDepth 100000
def trueL (v : List Bool) (l : Int) : Bool := if l > 0 then v.getD (l - 1).toNat false else !(v.getD (-l - 1).toNat false)
def sumV (v : List Bool) (ts : List Term) : Int := sumR (fun t => if trueL v t.lit then t.coef else 0) ts
def evalC (c : Con) (v : List Bool) : Bool := decide (sumV v c.terms ≥ c.bound)
def ofV (v : List Bool) : List Int := v.map fun b => if b then 1 else -1
theorem ofV_ok {v : List Bool} (h : v.length = 12) : okP (ofV v) := by
  refine ⟨by simp [ofV, h], fun x hx => ?_⟩
  obtain ⟨b, _, rfl⟩ := List.mem_map.1 hx
  cases b <;> simp
theorem ofV_get (v : List Bool) (k : Nat) (h : k < v.length) : (ofV v).getD k 0 = if v.getD k false then 1 else -1 := by
  rw [List.getD_eq_getElem?_getD, List.getD_eq_getElem?_getD, ofV, List.getElem?_map, List.getElem?_eq_getElem h]
  rfl
theorem ofV_stt {v : List Bool} (h : v.length = 12) {l : Int} (hl : lit12 l) : stt (ofV v) l = if trueL v l then 1 else -1 := by
  obtain ⟨h0, h1, h2⟩ := hl
  unfold stt trueL
  split
  · rw [ofV_get v _ (by omega)]
  · rw [ofV_get v _ (by omega)]
    cases v.getD (-l - 1).toNat false <;> rfl
theorem sumR_congr {f g : Term → Int} (ts : List Term) (h : ∀ t ∈ ts, f t = g t) : sumR f ts = sumR g ts :=
  Int.le_antisymm (sumR_le ts fun t ht => by rw [h t ht]; exact Int.le_refl _) (sumR_le ts fun t ht => by rw [h t ht]; exact Int.le_refl _)
theorem ofV_slack {v : List Bool} (h : v.length = 12) {c : Con} (hc : okCon c = true) : slackC c (ofV v) = sumV v c.terms - c.bound := by
  unfold slackC sumV
  rw [keepT_sum, sumR_congr (g := fun t => if trueL v t.lit then t.coef else 0)]
  · omega
  · intro t ht
    rw [ofV_stt h (okT_lit12 ((okCon_parts hc).2.2.1 t ht))]
    cases trueL v t.lit <;> simp
theorem closed_ofV {v : List Bool} (h : v.length = 12) {c : Con} (hc : okCon c = true) : Closed (ofV v) c ↔ evalC c v = true := by
  unfold Closed evalC
  rw [ofV_slack h hc]
  constructor
  · intro ⟨h1, _⟩; simp; omega
  · intro he
    simp at he
    refine ⟨by omega, ?_⟩
    cases hi : impL (ofV v) (sumV v c.terms - c.bound) c.terms with
    | nil => rfl
    | cons l ls =>
      exfalso
      obtain ⟨t, ht, rfl, h0, _⟩ := impL_mem (l := l) (by rw [hi]; simp)
      rw [ofV_stt h (okT_lit12 ((okCon_parts hc).2.2.1 t ht))] at h0
      cases hb : trueL v t.lit <;> simp [hb] at h0
/-! negation -/
def negC (c : Con) : Con := ⟨c.terms.map fun t => ⟨t.coef, -t.lit⟩, max 0 (tot c - c.bound + 1)⟩
theorem absI_neg (n : Int) : absI (-n) = absI n := by unfold absI; omega
theorem okCon_tot {c : Con} (h : okCon c = true) : 0 ≤ tot c ∧ tot c ≤ 12000 := by
  obtain ⟨_, h2, h3, _, _⟩ := okCon_parts h
  have := totT_bound c.terms h3
  unfold tot
  omega
theorem trueL_neg (v : List Bool) {l : Int} (h0 : l ≠ 0) : trueL v (-l) = !trueL v l := by
  unfold trueL
  by_cases h : l > 0
  · rw [if_neg (by omega), if_pos h, Int.neg_neg]
  · rw [if_pos (by omega), if_neg h, Bool.not_not]
/-! reverse unit propagation -/
def zeroP : List Int := List.replicate 12 0
theorem zeroP_ok : okP zeroP := by
  refine ⟨rfl, fun x hx => ?_⟩
  rw [List.eq_of_mem_replicate hx]; omega
theorem zeroP_le (q : List Int) : LeP zeroP q := fun k hk hn => by
  exfalso
  apply hn
  unfold zeroP
  rw [List.getD_eq_getElem?_getD, List.getElem?_replicate_of_lt hk]
  rfl
def allV (list : List Con) (v : List Bool) : Bool := list.all fun c => evalC c v
end Go.L
