/- Laws of lifted functions: what holds from some fuel on; loops by an invariant. -/
import Derived.Test.YteojddfaiomfmaaE7
namespace Go.L
open Go Go.E
set_option linter.unusedVariables false

/-- from some fuel on -/
def Ev {α : Type} (f : Nat → Option α) (x : α) : Prop := ∃ n, ∀ fu, n ≤ fu → f fu = some x
section
variable {α β σ τ : Type}
theorem Ev.ret (x : α) : Ev (fun _ => some x) x := ⟨0, fun _ _ => rfl⟩
theorem Ev.of {f : Nat → Option α} {x : α} (h : ∀ fu, f fu = some x) : Ev f x := ⟨0, fun fu _ => h fu⟩
theorem Ev.of_const {o : Option α} {x : α} (h : o = some x) : Ev (fun _ => o) x := ⟨0, fun _ _ => h⟩
theorem Ev.bind {f : Nat → Option α} {g : Nat → α → Option β} {x : α} {y : β} (h : Ev f x) (k : Ev (fun fu => g fu x) y) : Ev (fun fu => (f fu).bind (g fu)) y := by
  obtain ⟨n, hn⟩ := h
  obtain ⟨m, hm⟩ := k
  exact ⟨max n m, fun fu hf => by show (f fu).bind (g fu) = _; rw [hn fu (by omega)]; exact hm fu (by omega)⟩
theorem Ev.congr {f g : Nat → Option α} {x : α} (h : Ev g x) (e : ∀ fu, f fu = g fu) : Ev f x := by
  obtain ⟨n, hn⟩ := h
  exact ⟨n, fun fu hf => (e fu).trans (hn fu hf)⟩
theorem Ev.ite {c : Bool} {f g : Nat → Option α} {x : α} (h1 : c = true → Ev f x) (h2 : c = false → Ev g x) : Ev (fun fu => if c = true then f fu else g fu) x := by
  cases c with
  | true => exact (h1 rfl).congr fun _ => rfl
  | false => exact (h2 rfl).congr fun _ => rfl
theorem Ev.get {f : Nat → Option α} {x : α} (h : Ev f x) : ∃ fu, f fu = some x := h.elim fun n hn => ⟨n, hn n (Nat.le_refl n)⟩
/-- a loop, from some fuel on -/
def EvW (b : Nat → σ → Option (Lo σ τ)) (s : σ) (j : Jn σ τ) : Prop := ∃ n, ∀ fu k, n ≤ fu → n ≤ k → whileL (b fu) k s = some j
theorem EvW.ev {b : Nat → σ → Option (Lo σ τ)} {s : σ} {j : Jn σ τ} (h : EvW b s j) : Ev (fun fu => whileL (b fu) fu s) j := by
  obtain ⟨n, hn⟩ := h
  exact ⟨n, fun fu hf => hn fu fu hf hf⟩
theorem evw_loop {b : Nat → σ → Option (Lo σ τ)} (I : Nat → σ → Prop) (Q : Jn σ τ → Prop)
    (h : ∀ n s, I n s → ∃ o, Ev (fun fu => b fu s) o ∧ (match o with | .cont s' => ∃ m, m < n ∧ I m s' | .brk s' => Q (.nx s') | .out t => Q (.out t))) :
    ∀ n s, I n s → ∃ j, EvW b s j ∧ Q j := by
  intro n
  induction n using Nat.strongRecOn with
  | _ n ih =>
    intro s hI
    obtain ⟨o, ⟨N, hN0⟩, ho⟩ := h n s hI
    have hN : ∀ fu, N ≤ fu → b fu s = some o := hN0
    cases o with
    | cont s' =>
      obtain ⟨m, hm, hI'⟩ := ho
      obtain ⟨j, ⟨M, hM⟩, hQ⟩ := ih m hm s' hI'
      refine ⟨j, ⟨max N M + 1, fun fu k hf hk => ?_⟩, hQ⟩
      obtain ⟨k, rfl⟩ : ∃ k', k = k' + 1 := ⟨k - 1, by omega⟩
      show (b fu s).bind _ = _
      rw [hN fu (by omega)]
      exact hM fu k (by omega) (by omega)
    | brk s' =>
      refine ⟨_, ⟨N + 1, fun fu k hf hk => ?_⟩, ho⟩
      obtain ⟨k, rfl⟩ : ∃ k', k = k' + 1 := ⟨k - 1, by omega⟩
      show (b fu s).bind _ = _
      rw [hN fu (by omega)]
      rfl
    | out t =>
      refine ⟨_, ⟨N + 1, fun fu k hf hk => ?_⟩, ho⟩
      obtain ⟨k, rfl⟩ : ∃ k', k = k' + 1 := ⟨k - 1, by omega⟩
      show (b fu s).bind _ = _
      rw [hN fu (by omega)]
      rfl
theorem range_loop {b : Nat → α → σ → Option (Lo σ τ)} (I : Nat → List α → σ → Prop) (Q : Jn σ τ → Prop) (h0 : ∀ i s, I i [] s → Q (.nx s))
    (h : ∀ i x xs s, I i (x :: xs) s → ∃ o, b i x s = some o ∧ (match o with | .cont s' => I (i + 1) xs s' | .brk s' => Q (.nx s') | .out t => Q (.out t))) :
    ∀ xs i s, I i xs s → ∃ j, rangeL b xs i s = some j ∧ Q j := by
  intro xs
  induction xs with
  | nil => intro i s hI; exact ⟨_, rfl, h0 i s hI⟩
  | cons x xs ih =>
    intro i s hI
    obtain ⟨o, hb, ho⟩ := h i x xs s hI
    cases o with
    | cont s' =>
      obtain ⟨j, hj, hQ⟩ := ih (i + 1) s' ho
      exact ⟨j, by show (b i x s).bind _ = _; rw [hb]; exact hj, hQ⟩
    | brk s' => exact ⟨_, by show (b i x s).bind _ = _; rw [hb]; rfl, ho⟩
    | out t => exact ⟨_, by show (b i x s).bind _ = _; rw [hb]; rfl, ho⟩
theorem idx_nat (xs : List α) (i : Nat) : idx xs (i : Int) = xs[i]? := by
  unfold idx; rw [if_pos (Int.natCast_nonneg i), Int.toNat_natCast]
theorem idx_lt {xs : List α} {i : Nat} (h : i < xs.length) : idx xs (i : Int) = some xs[i] := by rw [idx_nat, List.getElem?_eq_getElem h]
theorem mkN_le {n : Nat} (x : α) (h : n ≤ 4294967296) : mkN (n : Int) x = some (List.replicate n x) := by
  unfold mkN
  rw [if_pos (by omega), Int.toNat_natCast]
theorem sl_pre {xs : List α} {i : Nat} (h : i ≤ xs.length) : sl xs 0 (i : Int) = some (xs.take i) := by
  unfold sl
  rw [if_pos (by omega), Int.toNat_natCast]
  rfl
theorem i64s {i n : Nat} (h : i < n) (hn : n ≤ 9223372036854775807) : i64 ((i : Int) + 1) = ((i + 1 : Nat) : Int) := i64_succ h hn
end
end Go.L
