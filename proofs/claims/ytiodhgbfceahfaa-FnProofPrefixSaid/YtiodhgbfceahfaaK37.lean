/- The laws of proofs: sound, prefixes, composition. -/
import Derived.Test.YtiodhgbfceahfaaK36
namespace Go.L
open Go Go.E
set_option linter.unusedVariables false
set_option linter.unusedSimpArgs false
set_option maxRecDepth 100000
theorem fuFU : FU ≤ FU := Nat.le_refl _
/-! prefixes -/
theorem runD_app : ∀ (xs ys : List Step) (d : Db) (i : Nat), runD d (xs ++ ys) i = if (runD d xs i).2 < 0 then runD (runD d xs i).1 ys (i + xs.length) else runD d xs i
  | [], ys, d, i => by simp [runD]
  | s :: xs, ys, d, i => by
    rw [List.cons_append, runD, runD]
    cases stepD d s with
    | none => simp; omega
    | some d' =>
      simp only [List.length_cons]
      rw [runD_app xs ys d' (i + 1), show i + 1 + xs.length = i + (xs.length + 1) by omega]
theorem tmod_pick {n m : Nat} (hm : m ≤ 1000) (hn : n ≤ 1048576) : ∃ k : Nat, k ≤ m ∧ Int.tmod (n : Int) (i64 ((m : Int) + 1)) = (k : Int) ∧ (i64 ((m : Int) + 1)) ≠ 0 := by
  rw [i64_id (by omega) (by omega)]
  refine ⟨n % (m + 1), by have := Nat.mod_lt n (show 0 < m + 1 by omega); omega, ?_, by omega⟩
  rw [show ((m : Int) + 1) = ((m + 1 : Nat) : Int) by omega]
  rw [Int.tmod_eq_emod_of_nonneg (by omega)]
  omega
theorem FnProofPrefix_ok (code more : List UInt8) (g0 : code.length ≤ 9223372036854775807 ∧ ∀ x ∈ code, True) (g1 : more.length ≤ 9223372036854775807 ∧ ∀ x ∈ more, True) : ∃ fu, l_FnProofPrefix fu code more = some true := by
  refine ⟨FU, ?_⟩
  unfold l_FnProofPrefix
  split
  · rfl
  rename_i hlen
  simp only [Bool.or_eq_true, decide_eq_true_eq, not_or] at hlen
  obtain ⟨x, hx, h1, h2⟩ := drawRun_ok code FU fuFU
  rw [hx, Option.bind_some, i_runP FU fuFU, Option.bind_some, s_runP FU fuFU (smL_ML h1) (smS_lens h2), Option.bind_some]
  simp only [bne_self_eq_false, Bool.false_eq_true, if_false, i_problem, Option.bind_some]
  cases hp : okProb x.1 with
  | false => simp
  | true =>
    have hs9 := h2.1
    obtain ⟨k, hk, e, hne⟩ := tmod_pick (n := more.length) (m := x.2.length) (by omega) (by omega)
    rw [if_neg (by simp), if_neg hne, Option.bind_some, e, sl_pre hk, Option.bind_some, i_runP FU fuFU, Option.bind_some]
    congr 1
    have f1 : fitsB x.1 x.2 = true := by unfold fitsB; rw [hp]; simp; omega
    have f2 : fitsB x.1 (x.2.take k) = true := by unfold fitsB; rw [hp]; simp; omega
    have hr := runD_app (x.2.take k) (x.2.drop k) (initD x.1) 0
    rw [List.take_append_drop] at hr
    have a1 := runD_at (x.2.take k) (initD x.1) 0
    have a2 := runD_at (x.2.drop k) (runD (initD x.1) (x.2.take k) 0).1 (0 + (x.2.take k).length)
    have hkl : (x.2.take k).length = k := by simp; omega
    rw [hkl] at hr a1 a2
    rw [Nat.zero_add] at hr a2
    unfold runP
    rw [f1, f2]
    simp only [if_true]
    unfold runL
    by_cases hn : (runD (initD x.1) (x.2.take k) 0).2 < 0
    · rw [if_pos hn] at hr
      rw [hr]
      by_cases hm : (runD (runD (initD x.1) (x.2.take k) 0).1 (x.2.drop k) k).2 < 0
      · simp [hn, hm]
      · have : ((k : Nat) : Int) ≤ (runD (runD (initD x.1) (x.2.take k) 0).1 (x.2.drop k) k).2 := by omega
        simp [hn, hm]
        omega
    · rw [if_neg hn] at hr
      rw [hr]
      simp [hn]
      omega
end Go.L
