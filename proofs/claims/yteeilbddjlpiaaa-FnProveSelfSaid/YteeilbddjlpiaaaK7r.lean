/- The reader of the draws. -/
import Derived.Test.YteeilbddjlpiaaaK1
import Derived.Test.YteeilbddjlpiaaaD1
namespace Go.L
open Go Go.E
set_option linter.unusedVariables false
set_option linter.unusedSimpArgs false
set_option maxRecDepth 100000
/-- it answers, and the answer is so -/
def So {α : Type} (x : Option α) (P : α → Prop) : Prop := ∃ a, x = some a ∧ P a
section
variable {α β σ τ : Type}
theorem so_some {a : α} {P : α → Prop} (h : P a) : So (some a) P := ⟨a, rfl, h⟩
theorem so_bind {x : Option α} {f : α → Option β} {P : α → Prop} {Q : β → Prop} (hx : So x P) (hf : ∀ a, P a → So (f a) Q) : So (x.bind f) Q := by
  obtain ⟨a, rfl, ha⟩ := hx
  exact hf a ha
theorem so_ite {c : Prop} [Decidable c] {x y : Option α} {P : α → Prop} (h1 : c → So x P) (h2 : ¬ c → So y P) : So (if c then x else y) P := by
  split
  · exact h1 ‹_›
  · exact h2 ‹_›
theorem so_app {xs ys : List α} (h : xs.length + ys.length ≤ 4294967296) {P : List α → Prop} (hp : P (xs ++ ys)) : So (app xs ys) P := ⟨_, app_le h, hp⟩
theorem so_idx {xs : List α} {k : Int} {P : α → Prop} (h0 : 0 ≤ k) (h1 : k < (xs.length : Int)) (h : ∀ x ∈ xs, P x) : So (idx xs k) P := by
  have hl : k.toNat < xs.length := by omega
  exact ⟨_, idx_get h0 hl, h _ (List.getElem_mem hl)⟩
theorem so_range {b : Nat → α → σ → Option (Lo σ τ)} (I : Nat → σ → Prop) (xs : List α) (s : σ) (h0 : I 0 s) (h : ∀ i x s, xs[i]? = some x → I i s → So (b i x s) fun o => ∃ s', o = .cont s' ∧ I (i + 1) s') :
    So (rangeL b xs 0 s) fun j => ∃ s', j = .nx s' ∧ I xs.length s' := by
  obtain ⟨j, hj, hQ⟩ := range_inv (b := b) xs I (fun j => ∃ s', j = .nx s' ∧ I xs.length s') (fun s hs => ⟨s, rfl, hs⟩) (fun i x s hx hI => by
    obtain ⟨o, ho, s', rfl, hs'⟩ := h i x s hx hI
    exact ⟨_, ho, hs'⟩) s h0
  exact ⟨j, hj, hQ⟩
theorem so_while {b : σ → Option (Lo σ τ)} (I : Nat → σ → Prop) (Q : σ → Prop) (n : Nat) (s : σ) (fu : Nat) (hf : n < fu) (h0 : I n s)
    (h : ∀ n s, I n s → So (b s) fun o => (∃ s' m, o = .cont s' ∧ m < n ∧ I m s') ∨ (∃ s', o = .brk s' ∧ Q s')) : So (whileL b fu s) fun j => ∃ s', j = .nx s' ∧ Q s' := by
  obtain ⟨j, hj, hQ⟩ := while_inv (b := b) I (fun j => ∃ s', j = .nx s' ∧ Q s') (fun n s hI => by
    obtain ⟨o, ho, ⟨s', m, rfl, hm, hs'⟩ | ⟨s', rfl, hs'⟩⟩ := h n s hI
    · exact ⟨_, ho, m, hm, hs'⟩
    · exact ⟨_, ho, s', rfl, hs'⟩) fu n s h0 hf
  exact ⟨j, hj, hQ⟩
end
/-! ### the reader -/
def PM : Int := 1000000
theorem xor_nonneg {m n : Int} (hm : 0 ≤ m) (hm2 : m ≤ 9223372036854775807) (hn : 0 ≤ n) (hn2 : n ≤ 9223372036854775807) : 0 ≤ xorI .i64 m n := by
  obtain ⟨a, rfl⟩ := Int.eq_ofNat_of_zero_le hm
  obtain ⟨b, rfl⟩ := Int.eq_ofNat_of_zero_le hn
  have hx : a ^^^ b < 2 ^ 63 := Nat.xor_lt_two_pow (by omega) (by omega)
  have h1 : (BitVec.ofInt (IntKind.bits .i64) (a : Int) ^^^ BitVec.ofInt (IntKind.bits .i64) (b : Int)).toNat = a ^^^ b := by
    show (BitVec.ofInt 64 (a : Int) ^^^ BitVec.ofInt 64 (b : Int)).toNat = a ^^^ b
    rw [BitVec.toNat_xor, BitVec.toNat_ofInt, BitVec.toNat_ofInt]
    congr 1 <;> omega
  unfold xorI
  rw [h1]
  have : i64 ((a ^^^ b : Nat) : Int) = ((a ^^^ b : Nat) : Int) := i64_id (by omega) (by omega)
  show 0 ≤ i64 ((a ^^^ b : Nat) : Int)
  rw [this]
  omega
theorem pick_ok (r : Rd) (n : Int) (hb : r.b.length ≤ 2000) (h0 : 0 ≤ r.p) (h1 : r.p ≤ PM) : So (s_l17Rd_pick r n) fun o => o.2 = r.p + 1 ∧ 0 ≤ o.1 ∧ (1 ≤ n → o.1 < n) := by
  unfold PM at h1
  unfold s_l17Rd_pick
  have e1 : i64 (r.p + 1) = r.p + 1 := i64_id (by omega) (by omega)
  have e2 : i64 (r.p + 1 - 1) = r.p := by rw [i64_id (by omega) (by omega)]; omega
  rw [e1, e2]
  refine so_ite (fun h => so_some ⟨rfl, Int.le_refl _, fun h => by omega⟩) fun h => ?_
  simp only [Bool.or_eq_true, decide_eq_true_eq, beq_iff_eq, not_or] at h
  have hn : n ≠ 0 := by omega
  have hl : (r.b.length : Int) ≠ 0 := h.2
  refine so_ite (fun hc => ?_) fun hc => ?_
  · have hc := of_decide_eq_true hc
    refine so_bind (so_idx h0 hc fun x _ => trivial) fun x _ => ?_
    rw [if_neg hn]
    refine so_some ⟨rfl, ?_, fun _ => ?_⟩
    · have : i64 (x.toNat : Int) = x.toNat := i64_id (by omega) (by have := x.toNat_lt; omega)
      rw [this]; exact Int.tmod_nonneg _ (by omega)
    · exact Int.tmod_lt_of_pos _ (by omega)
  · rw [if_neg hl]
    have m0 : ∀ z : Int, 0 ≤ z → 0 ≤ Int.tmod z (r.b.length : Int) ∧ Int.tmod z (r.b.length : Int) < (r.b.length : Int) := fun z hz => ⟨Int.tmod_nonneg _ hz, Int.tmod_lt_of_pos _ (by omega)⟩
    have e3 : i64 (i64 (r.p * 7) + 3) = r.p * 7 + 3 := by rw [i64_id (n := r.p * 7) (by omega) (by omega), i64_id (by omega) (by omega)]
    refine so_bind (so_some (P := fun _ => True) trivial) fun _ _ => so_bind (so_idx (m0 _ h0).1 (m0 _ h0).2 fun x _ => trivial) fun x _ => so_bind (so_some (P := fun _ => True) trivial) fun _ _ => ?_
    rw [e3]
    refine so_bind (so_idx (m0 _ (by omega)).1 (m0 _ (by omega)).2 fun x _ => trivial) fun y _ => so_bind (so_some (P := fun _ => True) trivial) fun _ _ => ?_
    rw [if_neg hn]
    refine so_bind (so_some (P := fun _ => True) trivial) fun _ _ => so_some ⟨rfl, ?_, fun _ => Int.tmod_lt_of_pos _ (by omega)⟩
    refine Int.tmod_nonneg _ ?_
    have hx := x.toNat_lt
    have hy := y.toNat_lt
    have hq : 0 ≤ Int.tdiv r.p (r.b.length : Int) := Int.tdiv_nonneg h0 (by omega)
    have hq2 : Int.tdiv r.p (r.b.length : Int) ≤ r.p := Int.tdiv_le_self _ h0
    have f1 : i64 (x.toNat : Int) = x.toNat := i64_id (by omega) (by omega)
    have f2 : i64 (y.toNat : Int) = y.toNat := i64_id (by omega) (by omega)
    have f3 : i64 ((x.toNat : Int) * 131) = x.toNat * 131 := i64_id (by omega) (by omega)
    have f4 : i64 ((y.toNat : Int) * 1117) = y.toNat * 1117 := i64_id (by omega) (by omega)
    have f5 : i64 ((x.toNat : Int) * 131 + y.toNat * 1117) = x.toNat * 131 + y.toNat * 1117 := i64_id (by omega) (by omega)
    have f6 : i64 (r.p * 29) = r.p * 29 := i64_id (by omega) (by omega)
    have f7 : i64 ((x.toNat : Int) * 131 + y.toNat * 1117 + r.p * 29) = x.toNat * 131 + y.toNat * 1117 + r.p * 29 := i64_id (by omega) (by omega)
    have f8 : i64 (Int.tdiv r.p (r.b.length : Int)) = Int.tdiv r.p (r.b.length : Int) := i64_id (by omega) (by omega)
    have f9 : i64 (Int.tdiv r.p (r.b.length : Int) * 53) = Int.tdiv r.p (r.b.length : Int) * 53 := i64_id (by omega) (by omega)
    have fa : i64 ((x.toNat : Int) * 131 + y.toNat * 1117 + r.p * 29 + Int.tdiv r.p (r.b.length : Int) * 53) = x.toNat * 131 + y.toNat * 1117 + r.p * 29 + Int.tdiv r.p (r.b.length : Int) * 53 := i64_id (by omega) (by omega)
    rw [f1, f2, f3, f4, f5, f6, f7, f8, f9, fa]
    generalize hz : (x.toNat : Int) * 131 + y.toNat * 1117 + r.p * 29 + Int.tdiv r.p (r.b.length : Int) * 53 = z
    have z0 : 0 ≤ z := by omega
    have z1 : z ≤ 1000000000000 := by omega
    have d0 : 0 ≤ Int.tdiv z 64 := Int.tdiv_nonneg z0 (by omega)
    have d1 : Int.tdiv z 64 ≤ z := Int.tdiv_le_self _ z0
    rw [i64_id (n := Int.tdiv z 64) (by omega) (by omega)]
    exact xor_nonneg z0 (by omega) d0 (by omega)
theorem num_ok (r : Rd) (xs : List Int) (hx : xs ≠ []) (hb : r.b.length ≤ 2000) (h0 : 0 ≤ r.p) (h1 : r.p ≤ PM) : So (s_l17Rd_num r xs) fun o => o.2 = r.p + 1 ∧ o.1 ∈ xs := by
  unfold s_l17Rd_num
  have hl : 1 ≤ (xs.length : Int) := by have := List.length_pos_iff.2 hx; omega
  refine so_bind (pick_ok r _ hb h0 h1) fun a ⟨ha, hb0, hb1⟩ => ?_
  refine so_bind (so_idx (P := fun x => x ∈ xs) hb0 (hb1 hl) fun x hx => hx) fun x hx => so_some ⟨ha, hx⟩
theorem open_ok (code : List UInt8) : So (s_l17Open code) fun r => r.b.length ≤ 2000 ∧ r.p = 0 := by
  unfold s_l17Open
  refine so_bind (P := fun (c : List UInt8) => c.length ≤ 2000) (so_ite (fun h => ?_) fun h => so_some ?_) fun c hc => so_some ⟨hc, rfl⟩
  · have h := of_decide_eq_true h
    have h2 : sl code 0 2000 = some (code.take 2000) := sl_pre (i := 2000) (by omega)
    rw [h2]
    exact so_some (by rw [List.length_take]; omega)
  · simp only [decide_eq_true_eq] at h; omega
end Go.L
