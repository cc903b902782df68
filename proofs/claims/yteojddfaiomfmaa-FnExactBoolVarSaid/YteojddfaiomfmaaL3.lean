/- Copies and comparisons of arguments: integers, rules, models. -/
import Derived.Test.YteojddfaiomfmaaL2
namespace Go.L
open Go Go.E
set_option linter.unusedVariables false

/-- a copy into a list that was made, element by element -/
theorem copy_list {α : Type} (one : Nat → α → Option α) (xs : List α) (z : α) (hx : xs.length ≤ ML) (b : Nat → (List α × Int) → Option (Lo (List α × Int) (List α)))
    (hb : ∀ fu out (i : Nat) (x : α), i < xs.length → out.length = xs.length → xs[i]? = some x → b fu (out, (i : Int)) = (one fu x).bind fun y => some (.cont (out.set i y, i64 ((i : Int) + 1))))
    (he : ∀ fu out, b fu (out, (xs.length : Int)) = some (.brk (out, (xs.length : Int))))
    (hone : ∀ x ∈ xs, Ev (fun fu => one fu x) x) :
    EvW b (List.replicate xs.length z, 0) (.nx (xs, (xs.length : Int))) := by
  obtain ⟨j, hj, hQ⟩ := evw_loop (b := b) (fun n s => ∃ i : Nat, n = xs.length - i ∧ i ≤ xs.length ∧ s.2 = (i : Int) ∧ s.1.length = xs.length ∧ s.1.take i = xs.take i)
    (fun j => j = .nx (xs, (xs.length : Int))) (by
      rintro n ⟨out, k⟩ ⟨i, rfl, hi, hk, hl, ht⟩
      simp only at hk hl ht
      subst hk
      rcases Nat.lt_or_ge i xs.length with hlt | hge
      · refine ⟨.cont (out.set i xs[i], ((i + 1 : Nat) : Int)), ?_, ⟨_, ?_, i + 1, rfl, hlt, rfl, by simpa using hl, ?_⟩⟩
        · refine Ev.congr ?_ fun fu => hb fu out i _ hlt hl (List.getElem?_eq_getElem hlt)
          exact (hone _ (List.getElem_mem hlt)).bind (Ev.of fun fu => by rw [i64s hlt hx])
        · omega
        · rw [List.take_add_one, List.take_add_one, List.take_set_of_le (Nat.le_refl i), ht]
          simp [hl, hlt]
      · obtain rfl : i = xs.length := by omega
        refine ⟨.brk (out, (xs.length : Int)), Ev.of fun fu => he fu out, ?_⟩
        rw [List.take_length, ← hl, List.take_length] at ht
        rw [ht]) xs.length (List.replicate xs.length z, 0) ⟨0, by omega, by omega, rfl, by simp, by simp⟩
  subst hQ
  exact hj
theorem toIntS (a : List Int) (ha : a.length ≤ 1048576) : Ev (fun fu => l_toIntS fu a) a := by
  unfold l_toIntS
  refine (Ev.of_const (mkN_le 0 (by omega))).bind ?_
  have := copy_list (fun _ x => some x) a (0 : Int) (by unfold ML; omega) (fun _ => l_toIntS_b1 a)
    (by
      intro fu out i x hi hl hx
      show (if _ then _ else _) = _
      rw [if_pos (by simp; omega), idx_nat, hx, idx_nat, List.getElem?_eq_getElem (by omega)]
      simp)
    (by
      intro fu out
      show (if _ then _ else _) = _
      rw [if_neg (by simp)])
    (fun x _ => Ev.ret x)
  exact this.ev.bind (Ev.ret _)
theorem toIntSS (a : List (List Int)) (ha : a.length ≤ 1048576) (hel : ∀ x ∈ a, x.length ≤ 1048576) : Ev (fun fu => l_toIntSS fu a) a := by
  unfold l_toIntSS
  refine (Ev.of_const (mkN_le [] (by omega))).bind ?_
  have := copy_list (fun fu x => l_toIntS fu x) a [] (by unfold ML; omega) (fun fu => l_toIntSS_b1 fu a)
    (by
      intro fu out i x hi hl hx
      show (if _ then _ else _) = _
      rw [if_pos (by simp; omega), idx_nat, hx, idx_nat, List.getElem?_eq_getElem (by omega)]
      simp)
    (by
      intro fu out
      show (if _ then _ else _) = _
      rw [if_neg (by simp)])
    (fun x hx => toIntS x (hel x hx))
  exact this.ev.bind (Ev.ret _)
theorem toRule (a : Rule) (h : smallR a) : Ev (fun fu => l_toRule fu a) a := by
  unfold l_toRule
  exact (toIntS _ h.1).bind ((toIntS _ h.2.1).bind ((toIntSS _ h.2.2.1 h.2.2.2).bind (Ev.ret _)))
theorem toRuleS (a : List Rule) (ha : a.length ≤ 1048576) (hel : ∀ x ∈ a, smallR x) : Ev (fun fu => l_toRuleS fu a) a := by
  unfold l_toRuleS
  refine (Ev.of_const (mkN_le _ (by omega))).bind ?_
  have := copy_list (fun fu x => l_toRule fu x) a ({ kind := 0, vars := [], coefs := [], bound := 0, rows := [] } : Rule) (by unfold ML; omega) (fun fu => l_toRuleS_b1 fu a)
    (by
      intro fu out i x hi hl hx
      show (if _ then _ else _) = _
      rw [if_pos (by simp; omega), idx_nat, hx, idx_nat, List.getElem?_eq_getElem (by omega)]
      simp)
    (by
      intro fu out
      show (if _ then _ else _) = _
      rw [if_neg (by simp)])
    (fun x hx => toRule x (hel x hx))
  exact this.ev.bind (Ev.ret _)
theorem toModel (a : Model) (h : smallM a) : Ev (fun fu => l_toModel fu a) a := by
  unfold l_toModel
  exact (toIntS _ h.1).bind ((toRuleS _ h.2.1 h.2.2).bind (Ev.ret _))
/-- a list compared with itself, element by element -/
theorem same_list {α : Type} (one : Nat → α → Option Bool) (xs : List α) (hx : xs.length ≤ ML) (b : Nat → Int → Option (Lo Int Bool))
    (hb : ∀ fu (i : Nat) (x : α), i < xs.length → xs[i]? = some x → b fu (i : Int) = (one fu x).bind fun y => if (!y) then some (.out false) else some (.cont (i64 ((i : Int) + 1))))
    (he : ∀ fu, b fu (xs.length : Int) = some (.brk (xs.length : Int)))
    (hone : ∀ x ∈ xs, Ev (fun fu => one fu x) true) : EvW b 0 (.nx (xs.length : Int)) := by
  obtain ⟨j, hj, hQ⟩ := evw_loop (b := b) (fun n s => ∃ i : Nat, n = xs.length - i ∧ i ≤ xs.length ∧ s = (i : Int)) (fun j => j = .nx (xs.length : Int)) (by
      rintro n _ ⟨i, rfl, hi, rfl⟩
      rcases Nat.lt_or_ge i xs.length with hlt | hge
      · refine ⟨.cont ((i + 1 : Nat) : Int), ?_, ⟨_, ?_, i + 1, rfl, hlt, rfl⟩⟩
        · refine Ev.congr ?_ fun fu => hb fu i _ hlt (List.getElem?_eq_getElem hlt)
          exact (hone _ (List.getElem_mem hlt)).bind (Ev.of fun fu => by rw [i64s hlt hx]; rfl)
        · omega
      · obtain rfl : i = xs.length := by omega
        exact ⟨.brk (xs.length : Int), Ev.of fun fu => he fu, rfl⟩) _ _ ⟨0, rfl, by omega, rfl⟩
  subst hQ
  exact hj
theorem eqIntS (a : List Int) (ha : a.length ≤ ML) : Ev (fun fu => l_eqIntS fu a a) true := by
  unfold l_eqIntS
  refine Ev.ite (fun hc => by simp at hc) fun _ => ?_
  have := same_list (fun _ _ => some true) a ha (fun _ => l_eqIntS_b1 a a)
    (by
      intro fu i x hi hx
      show (if _ then _ else _) = _
      rw [if_pos (by simp; omega), idx_nat, hx]
      simp)
    (by
      intro fu
      show (if _ then _ else _) = _
      rw [if_neg (by simp)])
    (fun x _ => Ev.ret _)
  exact this.ev.bind (Ev.ret _)
theorem eqIntSS (a : List (List Int)) (ha : a.length ≤ ML) (hel : ∀ x ∈ a, x.length ≤ ML) : Ev (fun fu => l_eqIntSS fu a a) true := by
  unfold l_eqIntSS
  refine Ev.ite (fun hc => by simp at hc) fun _ => ?_
  have := same_list (fun fu x => l_eqIntS fu x x) a ha (fun fu => l_eqIntSS_b1 fu a a)
    (by
      intro fu i x hi hx
      show (if _ then _ else _) = _
      rw [if_pos (by simp; omega), idx_nat, hx]
      rfl)
    (by
      intro fu
      show (if _ then _ else _) = _
      rw [if_neg (by simp)])
    (fun x hx => eqIntS x (hel x hx))
  exact this.ev.bind (Ev.ret _)
theorem eqRule (a : Rule) (h : lenR a) : Ev (fun fu => l_eqRule fu a a) true := by
  unfold l_eqRule
  refine Ev.ite (fun hc => by simp at hc) fun _ => ?_
  refine (eqIntS _ h.1).bind (Ev.ite (fun hc => by simp at hc) fun _ => ?_)
  refine (eqIntS _ h.2.1).bind (Ev.ite (fun hc => by simp at hc) fun _ => Ev.ite (fun hc => by simp at hc) fun _ => ?_)
  exact (eqIntSS _ h.2.2.1 h.2.2.2).bind (Ev.ite (fun hc => by simp at hc) fun _ => Ev.ret _)
theorem eqRuleS (a : List Rule) (ha : a.length ≤ ML) (hel : ∀ x ∈ a, lenR x) : Ev (fun fu => l_eqRuleS fu a a) true := by
  unfold l_eqRuleS
  refine Ev.ite (fun hc => by simp at hc) fun _ => ?_
  have := same_list (fun fu x => l_eqRule fu x x) a ha (fun fu => l_eqRuleS_b1 fu a a)
    (by
      intro fu i x hi hx
      show (if _ then _ else _) = _
      rw [if_pos (by simp; omega), idx_nat, hx]
      rfl)
    (by
      intro fu
      show (if _ then _ else _) = _
      rw [if_neg (by simp)])
    (fun x hx => eqRule x (hel x hx))
  exact this.ev.bind (Ev.ret _)
theorem eqModel (a : Model) (h : lenM a) : Ev (fun fu => l_eqModel fu a a) true := by
  unfold l_eqModel
  refine (eqIntS _ h.1).bind (Ev.ite (fun hc => by simp at hc) fun _ => ?_)
  exact (eqRuleS _ h.2.1 h.2.2).bind (Ev.ite (fun hc => by simp at hc) fun _ => Ev.ret _)
theorem lenM_of {m : Model} (h : gModel m) : lenM m := ⟨h.1.1, h.2.1, fun r hr => ⟨(h.2.2 r hr).2.1.1, (h.2.2 r hr).2.2.1.1, (h.2.2 r hr).2.2.2.2.1, fun x hx => ((h.2.2 r hr).2.2.2.2.2 x hx).1⟩⟩
theorem lenR_small {r : Rule} (h : smallR r) : lenR r := by unfold smallR at h; unfold lenR ML; exact ⟨by omega, by omega, by omega, fun x hx => by have := h.2.2.2 x hx; omega⟩
theorem lenM_small {m : Model} (h : smallM m) : lenM m := ⟨by have := h.1; unfold ML; omega, by have := h.2.1; unfold ML; omega, fun r hr => lenR_small (h.2.2 r hr)⟩
end Go.L
