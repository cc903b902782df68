/- The law on models with fewer rules. -/
import Derived.Test.YtcjjfneofcpmfaaK8
namespace Go.L
open Go Go.E
set_option linter.unusedVariables false
set_option linter.unusedSimpArgs false
set_option maxRecDepth 100000

theorem prodS_app : ∀ (xs : List Int) (x : Int), prodS (xs ++ [x]) = prodS xs * (x.toNat + 1)
  | [], x => by simp [prodS]
  | y :: xs, x => by
    show (y.toNat + 1) * prodS (xs ++ [x]) = (y.toNat + 1) * prodS xs * (x.toNat + 1)
    rw [prodS_app xs x, Nat.mul_assoc]
theorem prod_loop (m : Model) (ha : m.sizes.all qSize = true) (h5 : m.sizes.length ≤ 5) : rangeL l_FnModelMore_b1 m.sizes 0 (1 : Int) = some (.nx ((prodS m.sizes : Nat) : Int)) := by
  have h := range_to (b := l_FnModelMore_b1) (fun i => ((prodS (m.sizes.take i) : Nat) : Int)) m.sizes (by
    intro i x hx
    have hi := (List.getElem?_eq_some_iff.1 hx).1
    have hb := qSize_iff.1 (List.all_eq_true.1 ha x (List.mem_of_getElem? hx))
    have e1 : prodS (m.sizes.take (i + 1)) = prodS (m.sizes.take i) * (x.toNat + 1) := by rw [List.take_add_one, hx]; exact prodS_app _ _
    have b1 := prodS_bound _ (take_all m.sizes (i + 1) ha)
    have b2 : 4 ^ (m.sizes.take (i + 1)).length ≤ 4 ^ 5 := Nat.pow_le_pow_right (by omega) (by simp; omega)
    show some (Lo.cont (i64 (((prodS (m.sizes.take i) : Nat) : Int) * (i64 (x + 1))))) = _
    rw [i64_id (n := x + 1) (by omega) (by omega)]
    have e2 : ((prodS (m.sizes.take i) : Nat) : Int) * (x + 1) = ((prodS (m.sizes.take (i + 1)) : Nat) : Int) := by
      rw [e1, Int.natCast_mul]
      congr 1
      omega
    rw [e2, i64_id (by omega) (by omega)])
  simpa [prodS] using h
theorem okModel_fewer {m : Model} (h : okModel m = true) (rs : List Rule) (hl : rs.length ≤ m.rules.length) (hs : ∀ r ∈ rs, r ∈ m.rules) : okModel ⟨m.sizes, rs⟩ = true := by
  obtain ⟨h1, h5, ha, hr, hg, hall⟩ := okModel_parts h
  unfold okModel
  rw [if_neg (by simp; omega)]
  simp only
  rw [ha, Bool.true_and, List.all_eq_true]
  exact fun r hr => List.all_eq_true.1 hall r (hs r hr)
theorem count_mono {m : Model} (h : okModel m = true) (rs : List Rule) (hl : rs.length ≤ m.rules.length) (hs : ∀ r ∈ rs, r ∈ m.rules) : countModel m ≤ countModel ⟨m.sizes, rs⟩ := by
  unfold countModel
  rw [if_pos h, if_pos (okModel_fewer h rs hl hs)]
  unfold countFrom
  refine List.countP_mono_left fun cs _ hc => ?_
  unfold solves at hc ⊢
  rw [List.all_eq_true] at hc ⊢
  exact fun r hr => hc r (hs r hr)
theorem count_prod {m : Model} (h : okModel m = true) : countModel m ≤ prodS m.sizes := by
  have hf := okModel_zeros h
  unfold countModel
  rw [if_pos h]
  have h1 := countFrom_le hf
  have h2 := rem_lt hf
  omega
theorem count_free {m : Model} (h : okModel m = true) : countModel ⟨m.sizes, []⟩ = prodS m.sizes := by
  have hok := okModel_fewer h [] (by simp) (by simp)
  have hf := okModel_zeros hok
  unfold countModel
  rw [if_pos hok]
  unfold countFrom
  have h2 : (enumC m.sizes (zeros ⟨m.sizes, []⟩)).countP (solves ⟨m.sizes, []⟩) = (enumC m.sizes (zeros ⟨m.sizes, []⟩)).length := by
    rw [List.countP_eq_length]
    intro a _
    rfl
  rw [h2, enum_len _ rfl hf]
  exact (fit_zeros m.sizes fun s hs => (qSize_iff.1 (List.all_eq_true.1 (okModel_parts h).2.2.1 s hs)).1).2
theorem FnModelMore_ok (code more : List UInt8) (g0 : code.length ≤ 9223372036854775807 ∧ ∀ x ∈ code, True) (g1 : more.length ≤ 9223372036854775807 ∧ ∀ x ∈ more, True) : ∃ fu, l_FnModelMore fu code more = some true := by
  refine ⟨FU, ?_⟩
  unfold l_FnModelMore
  split
  · rfl
  refine anyB_intro (drawCount_ok code FU (Nat.le_refl _)) (o0 := ⟨[], []⟩) s0 fun m hm => ?_
  have hs := small_s hm
  rw [i_count m hs FU (Nat.le_refl _), s_count m hs FU (Nat.le_refl _), i_model m hs]
  simp only [Option.bind_some]
  cases hok : okModel m with
  | false => simp
  | true =>
    obtain ⟨h1, h5, ha, hr, hg, hall⟩ := okModel_parts hok
    simp only [bne_self_eq_false, Bool.not_true, Bool.false_eq_true, if_false, Option.bind_some]
    rw [i64_id (n := (m.rules.length : Int) + 1) (by omega) (by omega), if_neg (by omega), Option.bind_some, prod_loop m ha h5, Option.bind_some]
    obtain ⟨k, hk, hkl⟩ : ∃ k : Nat, Int.tmod (more.length : Int) ((m.rules.length : Int) + 1) = (k : Int) ∧ k ≤ m.rules.length := by
      have a0 : 0 ≤ Int.tmod (more.length : Int) ((m.rules.length : Int) + 1) := Int.tmod_nonneg _ (by omega)
      have a1 : Int.tmod (more.length : Int) ((m.rules.length : Int) + 1) < (m.rules.length : Int) + 1 := Int.tmod_lt_of_pos _ (by omega)
      exact ⟨(Int.tmod (more.length : Int) ((m.rules.length : Int) + 1)).toNat, by omega, by omega⟩
    rw [hk]
    simp only [sl_pre hkl, Option.bind_some]
    have hsub : ∀ rs : List Rule, rs.length ≤ m.rules.length → (∀ r ∈ rs, r ∈ m.rules) → smallM ⟨m.sizes, rs⟩ := fun rs h1 h2 => ⟨hs.1, by have := hs.2.1; simp only; omega, fun r hr => hs.2.2 r (h2 r hr)⟩
    have ht1 : (m.rules.take k).length ≤ m.rules.length := by simp; omega
    have ht2 : ∀ r ∈ m.rules.take k, r ∈ m.rules := fun r hr => List.mem_of_mem_take hr
    rw [i_count _ (hsub _ ht1 ht2) FU (Nat.le_refl _), i_count _ (hsub [] (by simp) (by simp)) FU (Nat.le_refl _)]
    have c1 := count_mono hok _ ht1 ht2
    have c2 := count_prod (okModel_fewer hok _ ht1 ht2)
    simp only at c2
    rw [count_free hok]
    simp only [Option.bind_some]
    rw [if_pos (by simp; omega)]
    simp
end Go.L
