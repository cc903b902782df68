/- What a proof shows, on both sides: derived constraints, refutations, derivations. -/
import Derived.Test.YteeilbddjlpiaaaGreatK34
namespace Go.L
open Go Go.E
set_option linter.unusedVariables false
set_option linter.unusedSimpArgs false
set_option maxRecDepth 100000
theorem i_own (c : Con) (h : c.terms.length ≤ 4000000) : i_Constraint_own c = some c := by
  unfold i_Constraint_own
  rw [clone_term _ h]
  rfl
/-! the first constraint that is false and not deleted -/
def fAt : List Con → List Bool → Nat → Int
  | c :: cs, g :: gs, i => if !g && falseC c then (i : Int) else fAt cs gs (i + 1)
  | _, _, _ => -1
def falseAt (d : Db) : Int := fAt d.list d.gone 0
theorem fAt_spec : ∀ (cs : List Con) (gs : List Bool) (i : Nat), fAt cs gs i = -1 ∨ ∃ k : Nat, fAt cs gs i = ((i + k : Nat) : Int) ∧ ∃ c, cs[k]? = some c ∧ falseC c = true ∧ gs[k]? = some false
  | [], _, _ => .inl (by simp [fAt])
  | _ :: _, [], _ => .inl (by simp [fAt])
  | c :: cs, g :: gs, i => by
    rw [fAt]
    split
    · rename_i h
      rw [Bool.and_eq_true] at h
      exact .inr ⟨0, rfl, c, rfl, h.2, by simpa using h.1⟩
    · rcases fAt_spec cs gs (i + 1) with h | ⟨k, h1, c', h2, h3, h4⟩
      · exact .inl h
      · exact .inr ⟨k + 1, by rw [h1]; congr 1; omega, c', by simpa using h2, h3, by simpa using h4⟩
theorem fAt_some : ∀ (cs : List Con) (gs : List Bool) (i k : Nat) (c : Con), cs[k]? = some c → falseC c = true → gs[k]? = some false → 0 ≤ fAt cs gs i
  | [], _, _, k, c, h, _, _ => by simp at h
  | _ :: _, [], _, k, c, _, _, h => by simp at h
  | x :: cs, g :: gs, i, k, c, h1, h2, h3 => by
    rw [fAt]
    split
    · omega
    · rename_i hn
      cases k with
      | zero =>
        simp at h1 h3
        subst h1 h3
        simp [h2] at hn
      | succ k => exact fAt_some cs gs (i + 1) k c (by simpa using h1) h2 (by simpa using h3)
theorem false_loop {τ : Type} {b : Nat → Con → Unit → Option (Lo Unit τ)} (res : Int → τ) (gone : List Bool) (hb : ∀ (i : Nat) c g, gone[i]? = some g → okCon c = true → b i c () = some (if !g && falseC c then .out (res (i : Int)) else .cont ())) : ∀ (cs : List Con) (gs : List Bool) (i : Nat), gone.drop i = gs → gs.length = cs.length → (∀ c ∈ cs, okCon c = true) →
    rangeL b cs i () = some (if 0 ≤ fAt cs gs i then .out (res (fAt cs gs i)) else .nx ())
  | [], [], i, _, _, _ => by simp [rangeL, fAt]
  | [], _ :: _, _, _, h, _ => by simp at h
  | _ :: _, [], _, _, h, _ => by simp at h
  | c :: cs, g :: gs, i, hd, hl, hc => by
    have hg : gone[i]? = some g := by
      have := drop_idx hd
      rwa [idx_nat] at this
    show (b i c ()).bind _ = _
    rw [hb i c g hg (hc c (by simp)), fAt]
    cases hq : !g && falseC c with
    | true => simp
    | false => simpa using false_loop res gone hb cs gs (i + 1) (drop_next hd) (by simpa using hl) fun x hx => hc x (by simp [hx])
theorem fAt_ge (cs : List Con) (gs : List Bool) (i : Nat) : fAt cs gs i = -1 ∨ 0 ≤ fAt cs gs i := by
  rcases fAt_spec cs gs i with h | ⟨k, h, _⟩
  · exact .inl h
  · exact .inr (by omega)
def refL (list : List Con) (steps : List Step) : Option Db × Int := if fitsB list steps && decide ((runL list steps).2 < 0) then (some (runL list steps).1, falseAt (runL list steps).1) else (none, -1)
theorem i_refuting_eq (fu : Nat) (hf : FU ≤ fu) (list : List Con) (steps : List Step) : i_refuting fu list steps = some (refL list steps) := by
  unfold i_refuting refL
  rw [i_run_eq fu hf, Option.bind_some]
  unfold irunL
  cases h : fitsB list steps with
  | false => rfl
  | true =>
    simp only [if_true]
    by_cases hn : (runL list steps).2 < 0
    · have hd := (runL_ok h).1
      generalize (runL list steps).1 = d at hd
      simp only [hn, if_true, Option.bind_some, decide_true, Bool.and_self]
      rw [if_neg (by simp), false_loop (b := i_refuting_b1 d) (fun i => (some d, i)) d.gone (fun i c g hg hc => by
        rw [i_refuting_b1, idx_nat, hg, Option.bind_some, i_false c]
        cases g <;> cases falseC c <;> rfl) d.list d.gone 0 rfl hd.len hd.ok]
      unfold falseAt
      rcases fAt_ge d.list d.gone 0 with h | h
      · simp [h]
      · simp [h]
    · have hn' : (runL list steps).2 ≥ 0 := by omega
      simp [hn, hn']
def refB (list : List Con) (steps : List Step) : Bool := decide (0 ≤ (refL list steps).2)
theorem i_refB (fu : Nat) (hf : FU ≤ fu) (list : List Con) (steps : List Step) : i_CheckRefutation fu list steps = some (refB list steps) := by
  unfold i_CheckRefutation refB
  rw [i_refuting_eq fu hf]
  rfl
theorem refB_iff {list : List Con} {steps : List Step} : refB list steps = true ↔ fitsB list steps = true ∧ (runL list steps).2 < 0 ∧ 0 ≤ falseAt (runL list steps).1 := by
  unfold refB refL
  cases h : fitsB list steps with
  | false => simp
  | true =>
    by_cases hn : (runL list steps).2 < 0
    · simp [hn]
    · simp [hn]
end Go.L
