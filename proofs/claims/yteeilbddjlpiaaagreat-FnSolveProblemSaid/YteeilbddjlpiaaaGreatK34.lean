/- A proof runs alike on both sides; what it derives holds in all solutions. -/
import Derived.Test.YteeilbddjlpiaaaGreatK33
namespace Go.L
open Go Go.E
set_option linter.unusedVariables false
set_option linter.unusedSimpArgs false
set_option maxRecDepth 100000
theorem stepD_ok {d d' : Db} (hd : OkDb d) (hb : d.list.length < 2000) {s : Step} (h : stepD d s = some d') : OkDb d' ∧ d'.list.length ≤ d.list.length + 1 := by
  unfold stepD at h
  split at h
  · cases h
  split at h
  · split at h
    · cases h
      exact ⟨⟨by simp [hd.len], hd.ok, hd.big⟩, by simp⟩
    · cases h
  · split at h
    · rename_i hok
      cases h
      have hc := deriveD_ok hd (s := s) (c := (deriveD d s).1) (by rw [← hok])
      refine ⟨⟨by simp [pushD, hd.len], ?_, by simp [pushD]; omega⟩, by simp [pushD]⟩
      intro c hc'
      rcases List.mem_append.1 hc' with h | h
      · exact hd.ok c h
      · rw [List.mem_singleton] at h; subst h; exact hc
    · cases h
theorem i_step (fu : Nat) (hf : FU ≤ fu) {d : Db} (hd : OkDb d) (s : Step) : ∃ l g, i_running_step fu d s = some (match stepD d s with | some d' => (true, d'.list, d'.gone) | none => (false, l, g)) := by
  have hbig := hd.big
  have hlen := hd.len
  obtain ⟨k1, k2⟩ := kept_ok hd
  unfold i_running_step stepD
  rw [i_ref, i_shaped, Option.bind_some, Option.bind_some]
  cases hp : partsB s with
  | false => exact ⟨d.list, d.gone, by simp⟩
  | true =>
    have app1 : ∀ (xs : List Con) (c : Con), xs.length ≤ 2000 → app xs [c] = some (xs ++ [c]) := fun xs c h => app_le (by simp; omega)
    have app2 : app d.gone [false] = some (d.gone ++ [false]) := app_le (by simp; omega)
    have hk : (s.kind = 1 ∨ s.kind = 2 ∨ s.kind = 3 ∨ s.kind = 4 ∨ s.kind = 5 ∨ s.kind = 6 ∨ s.kind = 7 ∨ s.kind = 8) := by
      rcases kind_cases s.kind with h | h | h | h | h | h | h | h | ⟨h1, h2, h3, h4, h5, h6, h7, h8⟩
      all_goals first | (simp [h]; done) | (exfalso; unfold partsB at hp; simp [h1, h2, h3, h4, h5, h6, h7, h8] at hp)
    unfold deriveD
    rcases hk with h | h | h | h | h | h | h | h
    all_goals simp only [h, refersB, i_has hd]
    · cases hl : liveD d s.a with
      | false => exact ⟨d.list, d.gone, by simp⟩
      | true =>
        cases hm : liveD d s.b with
        | false => exact ⟨d.list, d.gone, by simp⟩
        | true =>
          obtain ⟨a1, _⟩ := live_idx hd hl
          obtain ⟨b1, _⟩ := live_idx hd hm
          cases hok : (addC (getC d s.a) (getC d s.b)).2 with
          | false => exact ⟨_, _, by simp [a1, b1, i_add, app1 _ _ hbig, app2, hok]; exact ⟨rfl, rfl⟩⟩
          | true => exact ⟨[], [], by simp [a1, b1, i_add, app1 _ _ hbig, app2, hok, pushD]⟩
    · cases hl : liveD d s.a with
      | false => exact ⟨d.list, d.gone, by simp⟩
      | true =>
        obtain ⟨a1, _⟩ := live_idx hd hl
        cases hok : (mulC (getC d s.a) s.b).2 with
        | false => exact ⟨_, _, by simp [a1, i_mul, app1 _ _ hbig, app2, hok]; exact ⟨rfl, rfl⟩⟩
        | true => exact ⟨[], [], by simp [a1, i_mul, app1 _ _ hbig, app2, hok, pushD]⟩
    · cases hl : liveD d s.a with
      | false => exact ⟨d.list, d.gone, by simp⟩
      | true =>
        obtain ⟨a1, _⟩ := live_idx hd hl
        cases hok : (divC (getC d s.a) s.b).2 with
        | false => exact ⟨_, _, by simp [a1, i_div, app1 _ _ hbig, app2, hok]; exact ⟨rfl, rfl⟩⟩
        | true => exact ⟨[], [], by simp [a1, i_div, app1 _ _ hbig, app2, hok, pushD]⟩
    · cases hl : liveD d s.a with
      | false => exact ⟨d.list, d.gone, by simp⟩
      | true =>
        obtain ⟨a1, _⟩ := live_idx hd hl
        cases hok : (satC (getC d s.a)).2 with
        | false => exact ⟨_, _, by simp [a1, i_saturate, app1 _ _ hbig, app2, hok]; exact ⟨rfl, rfl⟩⟩
        | true => exact ⟨[], [], by simp [a1, i_saturate, app1 _ _ hbig, app2, hok, pushD]⟩
    · cases hl : liveD d s.a with
      | false => exact ⟨d.list, d.gone, by simp⟩
      | true =>
        obtain ⟨a1, _⟩ := live_idx hd hl
        cases hok : (weakC (getC d s.a) s.b).2 with
        | false => exact ⟨_, _, by simp [a1, i_weak, app1 _ _ hbig, app2, hok]; exact ⟨rfl, rfl⟩⟩
        | true => exact ⟨[], [], by simp [a1, i_weak, app1 _ _ hbig, app2, hok, pushD]⟩
    · cases hok : (litC s.a).2 with
      | false => exact ⟨_, _, by simp [i_lit, app1 _ _ hbig, app2, hok]; exact ⟨rfl, rfl⟩⟩
      | true => exact ⟨[], [], by simp [i_lit, app1 _ _ hbig, app2, hok, pushD]⟩
    · cases hv : okCon s.given with
      | false => exact ⟨_, _, by simp [i_valid, app1 _ _ hbig, app2, hv]; exact ⟨rfl, rfl⟩⟩
      | true =>
        cases hr : rupB (keptD d) s.given with
        | false => exact ⟨_, _, by simp [i_valid, i_left hd, i_rup_eq fu hf k1 (by omega) hv, app1 _ _ hbig, app2, hv, hr]; exact ⟨rfl, rfl⟩⟩
        | true => exact ⟨[], [], by simp [i_valid, i_left hd, i_rup_eq fu hf k1 (by omega) hv, app1 _ _ hbig, app2, hv, hr, pushD]⟩
    · cases hl : liveD d s.a with
      | false => exact ⟨d.list, d.gone, by simp⟩
      | true =>
        obtain ⟨_, _, a3, a4, _⟩ := live_idx hd hl
        have := idx_b (gs := d.gone) a3 (by rw [hlen]; exact a4)
        exact ⟨[], [], by simp [this]⟩
/-! a whole proof -/
def runD : Db → List Step → Nat → Db × Int
  | d, [], _ => (d, -1)
  | d, s :: ss, i => match stepD d s with
    | some d' => runD d' ss (i + 1)
    | none => (d, (i : Int))
theorem runD_ok : ∀ (ss : List Step) (d : Db) (i : Nat), OkDb d → d.list.length + ss.length ≤ 2000 → OkDb (runD d ss i).1 ∧ (runD d ss i).1.list.length ≤ d.list.length + ss.length
  | [], d, i, h, _ => ⟨h, Nat.le_refl _⟩
  | s :: ss, d, i, h, hl => by
    simp only [List.length_cons] at *
    rw [runD]
    cases he : stepD d s with
    | none => exact ⟨h, by simp only; omega⟩
    | some d' =>
      obtain ⟨h1, h2⟩ := stepD_ok h (by omega) he
      have := runD_ok ss d' (i + 1) h1 (by omega)
      exact ⟨this.1, by have := this.2; simp only; omega⟩
def initD (list : List Con) : Db := ⟨list, List.replicate list.length false⟩
theorem initD_ok {list : List Con} (h : okProb list = true) : OkDb (initD list) := by
  obtain ⟨h1, h2⟩ := okProb_parts h
  exact ⟨by simp [initD], h1, by simp [initD]; omega⟩
def fitsB (list : List Con) (steps : List Step) : Bool := okProb list && decide ((steps.length : Int) ≤ 1000)
theorem fits_parts {list : List Con} {steps : List Step} (h : fitsB list steps = true) : okProb list = true ∧ list.length ≤ 400 ∧ steps.length ≤ 1000 := by
  unfold fitsB at h
  rw [Bool.and_eq_true] at h
  have := of_decide_eq_true h.2
  exact ⟨h.1, (okProb_parts h.1).2, by omega⟩
def runL (list : List Con) (steps : List Step) : Db × Int := runD (initD list) steps 0
theorem i_run_loop (fu : Nat) (hf : FU ≤ fu) (list : List Con) : ∀ (ss : List Step) (d : Db) (i : Nat), OkDb d → d.list.length + ss.length ≤ 2000 →
    rangeL (i_run_b1 fu list) ss i (d.list, d.gone) = some (if (runD d ss i).2 < 0 then .nx ((runD d ss i).1.list, (runD d ss i).1.gone) else .out (none, (runD d ss i).2))
  | [], d, i, _, _ => rfl
  | s :: ss, d, i, h, hl => by
    simp only [List.length_cons] at *
    show (i_run_b1 fu list i s (d.list, d.gone)).bind _ = _
    obtain ⟨l, g, e⟩ := i_step fu hf h s
    have e' : i_running_step fu ({ list := d.list, gone := d.gone } : Db) s = _ := e
    rw [i_run_b1, e', runD]
    cases he : stepD d s with
    | none => simp
    | some d' =>
      obtain ⟨h1, h2⟩ := stepD_ok h (by omega) he
      simpa using i_run_loop fu hf list ss d' (i + 1) h1 (by omega)
def irunL (list : List Con) (steps : List Step) : Option Db × Int :=
  if fitsB list steps then if (runL list steps).2 < 0 then (some (runL list steps).1, -1) else (none, (runL list steps).2) else (none, 0)
theorem i_run_eq (fu : Nat) (hf : FU ≤ fu) (list : List Con) (steps : List Step) : i_run fu list steps = some (irunL list steps) := by
  unfold i_run irunL
  rw [i_problem, Option.bind_some]
  cases hfi : fitsB list steps with
  | false =>
    have : ((!okProb list) || decide ((steps.length : Int) > 1000)) = true := by
      unfold fitsB at hfi
      cases h : okProb list with
      | false => rfl
      | true => rw [h] at hfi; simp at hfi ⊢; omega
    rw [if_pos this]
    rfl
  | true =>
    obtain ⟨h1, h2, h3⟩ := fits_parts hfi
    have : ((!okProb list) || decide ((steps.length : Int) > 1000)) = false := by simp [h1]; omega
    rw [if_neg (by rw [this]; simp), i_clone_con list (by omega), Option.bind_some, mkN_le (n := list.length) false (by omega), Option.bind_some]
    have := i_run_loop fu hf list steps (initD list) 0 (initD_ok h1) (by simp [initD]; omega)
    simp only [initD] at this
    rw [this, Option.bind_some, if_pos rfl]
    unfold runL initD
    generalize runD ⟨list, List.replicate list.length false⟩ steps 0 = r
    obtain ⟨d, a⟩ := r
    simp only
    by_cases hn : a < 0 <;> simp [hn]
theorem runL_ok {list : List Con} {steps : List Step} (h : fitsB list steps = true) : OkDb (runL list steps).1 ∧ (runL list steps).1.list.length ≤ list.length + steps.length := by
  obtain ⟨h1, h2, h3⟩ := fits_parts h
  exact runD_ok steps (initD list) 0 (initD_ok h1) (by simp [initD]; omega)
end Go.L
