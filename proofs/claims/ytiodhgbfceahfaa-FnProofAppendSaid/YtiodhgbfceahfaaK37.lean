/- The laws of proofs: sound, prefixes, composition. -/
import Derived.Test.YtiodhgbfceahfaaK36
namespace Go.L
open Go Go.E
set_option linter.unusedVariables false
set_option linter.unusedSimpArgs false
set_option maxRecDepth 100000
theorem fuFU : FU ≤ FU := Nat.le_refl _
theorem cpProb (a b : List Con) : l_cpProblem a b = some (decide (a = b)) := by
  unfold l_cpProblem
  by_cases hl : a.length = b.length
  · rw [if_neg (by simp [hl]), equal_list a b (b := l_cpProblem_b1 b) (fun i x => by
      rw [l_cpProblem_b1]
      congr 1
      funext y
      rw [i_same]
      by_cases h : x = y <;> simp [h]) hl]
    by_cases h : a = b <;> simp [h]
  · rw [if_pos (by simp; omega), decide_eq_false (by intro h; rw [h] at hl; exact hl rfl)]
/-! prefixes -/
theorem runD_app : ∀ (xs ys : List Step) (d : Db) (i : Nat), runD d (xs ++ ys) i = if (runD d xs i).2 < 0 then runD (runD d xs i).1 ys (i + xs.length) else runD d xs i
  | [], ys, d, i => by simp [runD]
  | s :: xs, ys, d, i => by
    rw [List.cons_append, runD, runD]
    cases stepD d s with
    | none => simp; omega
    | some d' =>
      simp only [List.length_cons]
      rw [runD_app xs ys d' (i + 1), show i + 1 + xs.length = i + (xs.length + 1) by omega]
theorem tmod_pick {n m : Nat} (hm : m ≤ 1000) (hn : n ≤ 1048576) : ∃ k : Nat, k ≤ m ∧ Int.tmod (n : Int) (i64 ((m : Int) + 1)) = (k : Int) ∧ (i64 ((m : Int) + 1)) ≠ 0 := by
  rw [i64_id (by omega) (by omega)]
  refine ⟨n % (m + 1), by have := Nat.mod_lt n (show 0 < m + 1 by omega); omega, ?_, by omega⟩
  rw [show ((m : Int) + 1) = ((m + 1 : Nat) : Int) by omega]
  rw [Int.tmod_eq_emod_of_nonneg (by omega)]
  omega
/-! composition -/
theorem kept_all : ∀ (cs : List Con), keptL cs (List.replicate cs.length false) = cs
  | [] => rfl
  | c :: cs => by rw [List.length_cons, List.replicate_succ, keptL, kept_all cs]; simp
theorem step_live {d d' : Db} {s : Step} (hk : s.kind ≠ 8) (h : stepD d s = some d') : ∃ c, d' = pushD d c := by
  unfold stepD at h
  split at h
  · cases h
  split at h
  · cases h; exact ⟨_, rfl⟩
  · cases h
theorem push_init (cs : List Con) (c : Con) : pushD (initD cs) c = initD (cs ++ [c]) := by
  unfold pushD initD
  rw [List.length_append, List.length_singleton, List.replicate_succ']
theorem run_init : ∀ (ss : List Step) (cs : List Con) (i : Nat), (∀ s ∈ ss, s.kind ≠ 8) → ∃ cs', (runD (initD cs) ss i).1 = initD cs'
  | [], cs, i, _ => ⟨cs, rfl⟩
  | s :: ss, cs, i, h => by
    rw [runD]
    cases he : stepD (initD cs) s with
    | none => exact ⟨cs, rfl⟩
    | some d' =>
      obtain ⟨c, rfl⟩ := step_live (h s (by simp)) he
      rw [push_init]
      exact run_init ss (cs ++ [c]) (i + 1) fun x hx => h x (by simp [hx])
theorem runD_shift : ∀ (ss : List Step) (d : Db) (i j : Nat), (runD d ss i).1 = (runD d ss j).1 ∧ ((runD d ss i).2 < 0 ↔ (runD d ss j).2 < 0)
  | [], d, i, j => ⟨rfl, Iff.rfl⟩
  | s :: ss, d, i, j => by
    rw [runD, runD]
    cases stepD d s with
    | none => simp; omega
    | some d' => exact runD_shift ss d' (i + 1) (j + 1)
theorem FnProofAppend_ok (code more : List UInt8) (g0 : code.length ≤ 9223372036854775807 ∧ ∀ x ∈ code, True) (g1 : more.length ≤ 9223372036854775807 ∧ ∀ x ∈ more, True) : ∃ fu, l_FnProofAppend fu code more = some true := by
  refine ⟨FU, ?_⟩
  unfold l_FnProofAppend
  split
  · rfl
  rename_i hlen
  simp only [Bool.or_eq_true, decide_eq_true_eq, not_or] at hlen
  obtain ⟨x, hx, h1, h2⟩ := drawRun_ok code FU fuFU
  rw [hx, Option.bind_some, i_runP FU fuFU, Option.bind_some, s_runP FU fuFU (smL_ML h1) (smS_lens h2), Option.bind_some, cpProb]
  simp only [bne_self_eq_false, Bool.false_eq_true, if_false, Option.bind_some, decide_true, Bool.not_true, Bool.false_or, beq_self_eq_true, if_true]
  by_cases hn : (runP x.1 x.2).2 < 0
  · rw [if_neg (by simp; omega), range_any (fun s : Step => s.kind == 8) true x.2 fun i s hs => by rw [l_FnProofAppend_b1]; cases s.kind == 8 <;> rfl, Option.bind_some]
    cases hd : x.2.any fun s => s.kind == 8 with
    | true => rfl
    | false =>
      have hd : ∀ s ∈ x.2, s.kind ≠ 8 := by rw [List.any_eq_false] at hd; intro s hs; simpa using hd s hs
      have hs9 := h2.1
      have hl10 := h1.1
      obtain ⟨k, hk, e, hne⟩ := tmod_pick (n := more.length) (m := x.2.length) (by omega) (by omega)
      obtain ⟨f1, f2, f3⟩ := runP_neg hn
      have hp := (fits_parts f1).1
      simp only [Bool.false_eq_true, if_false]
      rw [if_neg hne, Option.bind_some, e, sl_pre hk, Option.bind_some, i_runP FU fuFU, Option.bind_some, sl_to hk (Nat.le_refl _), Option.bind_some, i_runP FU fuFU, Option.bind_some]
      rw [List.take_length]
      have q1 : fitsB x.1 (x.2.take k) = true := by unfold fitsB; rw [hp]; simp; omega
      have hr := runD_app (x.2.take k) (x.2.drop k) (initD x.1) 0
      rw [List.take_append_drop] at hr
      have f2' : (runD (initD x.1) x.2 0).2 < 0 := f2
      have a1 := runD_at (x.2.take k) (initD x.1) 0
      have m1 : (runD (initD x.1) (x.2.take k) 0).2 < 0 := by
        rw [hr] at f2'
        split at f2'
        · assumption
        · omega
      rw [if_pos m1] at hr
      obtain ⟨cs, hcs⟩ := run_init (x.2.take k) x.1 0 fun s hs => hd s (List.mem_of_mem_take hs)
      obtain ⟨cs2, hcs2⟩ := run_init x.2 x.1 0 hd
      have hok := runD_ok (x.2.take k) (initD x.1) 0 (initD_ok hp) (by simp [initD]; omega)
      rw [hcs] at hr hok
      have e1 : runP x.1 (x.2.take k) = (cs, -1) := by
        unfold runP runL
        rw [q1, if_pos rfl, if_pos m1, hcs]
        unfold keptD initD
        rw [kept_all]
      have e2 : runP x.1 x.2 = (cs2, -1) := by
        rw [f3]
        unfold runL
        rw [hcs2]
        unfold keptD initD
        rw [kept_all]
      have hpc : okProb cs = true := by
        have := hok.2
        unfold okProb
        rw [Bool.and_eq_true, List.all_eq_true]
        refine ⟨hok.1.ok, decide_eq_true ?_⟩
        simp [initD] at this
        omega
      have q2 : fitsB cs (x.2.drop k) = true := by unfold fitsB; rw [hpc]; simp; omega
      have hsh := runD_shift (x.2.drop k) (initD cs) 0 (0 + (x.2.take k).length)
      have m2 : (runD (initD cs) (x.2.drop k) 0).2 < 0 := by rw [hsh.2, ← hr]; exact f2'
      have e3 : runP cs (x.2.drop k) = (cs2, -1) := by
        unfold runP runL
        rw [q2, if_pos rfl, if_pos m2, hsh.1, ← hr, hcs2]
        unfold keptD initD
        rw [kept_all]
      rw [e1]
      simp only
      rw [e3, cpProb, e2]
      simp
  · rw [if_pos (by simp; omega)]
end Go.L
