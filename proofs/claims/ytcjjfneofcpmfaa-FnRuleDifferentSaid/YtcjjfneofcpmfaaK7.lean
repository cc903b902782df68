/- Drawn data: the draws answer, and what they draw is small. -/
import Derived.Test.YtcjjfneofcpmfaaD1
import Derived.Test.YtcjjfneofcpmfaaK1
namespace Go.L
open Go Go.E
set_option linter.unusedVariables false
set_option linter.unusedSimpArgs false
set_option maxRecDepth 100000

/-- it answers, and the answer is so -/
def So {α : Type} (x : Option α) (P : α → Prop) : Prop := ∃ a, x = some a ∧ P a
section
variable {α β σ τ : Type}
theorem so_some {a : α} {P : α → Prop} (h : P a) : So (some a) P := ⟨a, rfl, h⟩
theorem so_bind {x : Option α} {f : α → Option β} {P : α → Prop} {Q : β → Prop} (hx : So x P) (hf : ∀ a, P a → So (f a) Q) : So (x.bind f) Q := by
  obtain ⟨a, rfl, ha⟩ := hx
  exact hf a ha
theorem so_mono {x : Option α} {P Q : α → Prop} (hx : So x P) (h : ∀ a, P a → Q a) : So x Q := by
  obtain ⟨a, ha, hp⟩ := hx
  exact ⟨a, ha, h a hp⟩
theorem so_ite {c : Prop} [Decidable c] {x y : Option α} {P : α → Prop} (h1 : c → So x P) (h2 : ¬ c → So y P) : So (if c then x else y) P := by
  split
  · exact h1 ‹_›
  · exact h2 ‹_›
theorem so_eq {x : Option Unit} (h : So x fun _ => True) : x = some () := by
  obtain ⟨⟨⟩, h, _⟩ := h
  exact h
theorem so_assert {P : Prop} (h : P) : So (assertM P) fun _ => True := ⟨(), assertM_intro h, trivial⟩
theorem so_any {P : α → Prop} {f : α → Option β} {b : β} (o0 : α) (h0 : P o0) (h : ∀ o, P o → f o = some b) : anyM P f = some b := anyM_intro h0 h
theorem so_anyM {P : α → Prop} {f : α → Option Unit} (o0 : α) (h0 : P o0) (h : ∀ o, P o → So (f o) fun _ => True) : So (anyM P f) fun _ => True := ⟨(), anyM_intro h0 fun o ho => so_eq (h o ho), trivial⟩
theorem so_anyB {P : α → Prop} {e : Option Unit} {f : α → Option Unit} (o0 : α) (he : e = some ()) (h0 : P o0) (h : ∀ o, P o → So (f o) fun _ => True) : So (anyB e P f) fun _ => True := ⟨(), anyB_intro he h0 fun o ho => so_eq (h o ho), trivial⟩
theorem so_app {xs ys : List α} (h : xs.length + ys.length ≤ 4294967296) {P : List α → Prop} (hp : P (xs ++ ys)) : So (app xs ys) P := ⟨_, app_le h, hp⟩
theorem so_idx {xs : List α} {k : Int} {P : α → Prop} (h0 : 0 ≤ k) (h1 : k < (xs.length : Int)) (h : ∀ x ∈ xs, P x) : So (idx xs k) P := by
  have hl : k.toNat < xs.length := by omega
  exact ⟨_, idx_get h0 hl, h _ (List.getElem_mem hl)⟩
theorem so_range {b : Nat → α → σ → Option (Lo σ τ)} (I : Nat → σ → Prop) (xs : List α) (s : σ) (h0 : I 0 s) (h : ∀ i x s, xs[i]? = some x → I i s → So (b i x s) fun o => ∃ s', o = .cont s' ∧ I (i + 1) s') :
    So (rangeL b xs 0 s) fun j => ∃ s', j = .nx s' ∧ I xs.length s' := by
  obtain ⟨j, hj, hQ⟩ := range_inv (b := b) xs I (fun j => ∃ s', j = .nx s' ∧ I xs.length s') (fun s hs => ⟨s, rfl, hs⟩) (fun i x s hx hI => by
    obtain ⟨o, ho, s', rfl, hs'⟩ := h i x s hx hI
    exact ⟨_, ho, hs'⟩) s h0
  exact ⟨j, hj, hQ⟩
theorem so_count {b : Nat → σ → Option (Lo σ τ)} (I : Nat → σ → Prop) (n : Nat) (s : σ) (h0 : I 0 s) (h : ∀ i s, i < n → I i s → So (b i s) fun o => ∃ s', o = .cont s' ∧ I (i + 1) s') :
    So (countL b n 0 s) fun j => ∃ s', j = .nx s' ∧ I n s' := by
  obtain ⟨j, hj, hQ⟩ := count_inv (b := b) I (fun j => ∃ s', j = .nx s' ∧ I n s') n 0 (fun s hs => ⟨s, rfl, by simpa using hs⟩) (fun i s h1 h2 hI => by
    obtain ⟨o, ho, s', rfl, hs'⟩ := h i s (by omega) hI
    exact ⟨_, ho, hs'⟩) s h0
  exact ⟨j, hj, hQ⟩
theorem so_while {b : σ → Option (Lo σ τ)} (I : Nat → σ → Prop) (Q : σ → Prop) (n : Nat) (s : σ) (fu : Nat) (hf : n < fu) (h0 : I n s)
    (h : ∀ n s, I n s → So (b s) fun o => (∃ s' m, o = .cont s' ∧ m < n ∧ I m s') ∨ (∃ s', o = .brk s' ∧ Q s')) : So (whileL b fu s) fun j => ∃ s', j = .nx s' ∧ Q s' := by
  obtain ⟨j, hj, hQ⟩ := while_inv (b := b) I (fun j => ∃ s', j = .nx s' ∧ Q s') (fun n s hI => by
    obtain ⟨o, ho, ⟨s', m, rfl, hm, hs'⟩ | ⟨s', rfl, hs'⟩⟩ := h n s hI
    · exact ⟨_, ho, m, hm, hs'⟩
    · exact ⟨_, ho, s', rfl, hs'⟩) fu n s h0 hf
  exact ⟨j, hj, hQ⟩
end
/-! ### the reader -/
def PM : Int := 1000000
theorem xor_nonneg {m n : Int} (hm : 0 ≤ m) (hm2 : m ≤ 9223372036854775807) (hn : 0 ≤ n) (hn2 : n ≤ 9223372036854775807) : 0 ≤ xorI .i64 m n := by
  obtain ⟨a, rfl⟩ := Int.eq_ofNat_of_zero_le hm
  obtain ⟨b, rfl⟩ := Int.eq_ofNat_of_zero_le hn
  have hx : a ^^^ b < 2 ^ 63 := Nat.xor_lt_two_pow (by omega) (by omega)
  have h1 : (BitVec.ofInt (IntKind.bits .i64) (a : Int) ^^^ BitVec.ofInt (IntKind.bits .i64) (b : Int)).toNat = a ^^^ b := by
    show (BitVec.ofInt 64 (a : Int) ^^^ BitVec.ofInt 64 (b : Int)).toNat = a ^^^ b
    rw [BitVec.toNat_xor, BitVec.toNat_ofInt, BitVec.toNat_ofInt]
    congr 1 <;> omega
  unfold xorI
  rw [h1]
  have : i64 ((a ^^^ b : Nat) : Int) = ((a ^^^ b : Nat) : Int) := i64_id (by omega) (by omega)
  show 0 ≤ i64 ((a ^^^ b : Nat) : Int)
  rw [this]
  omega
theorem pick_ok (r : Rd) (n : Int) (hb : r.b.length ≤ 2000) (h0 : 0 ≤ r.p) (h1 : r.p ≤ PM) : So (s_l17Rd_pick r n) fun o => o.2 = r.p + 1 ∧ 0 ≤ o.1 ∧ (1 ≤ n → o.1 < n) := by
  unfold PM at h1
  unfold s_l17Rd_pick
  have e1 : i64 (r.p + 1) = r.p + 1 := i64_id (by omega) (by omega)
  have e2 : i64 (r.p + 1 - 1) = r.p := by rw [i64_id (by omega) (by omega)]; omega
  rw [e1, e2]
  refine so_ite (fun h => so_some ⟨rfl, Int.le_refl _, fun h => by omega⟩) fun h => ?_
  simp only [Bool.or_eq_true, decide_eq_true_eq, beq_iff_eq, not_or] at h
  have hn : n ≠ 0 := by omega
  have hl : (r.b.length : Int) ≠ 0 := h.2
  refine so_ite (fun hc => ?_) fun hc => ?_
  · have hc := of_decide_eq_true hc
    refine so_bind (so_idx h0 hc fun x _ => trivial) fun x _ => ?_
    rw [if_neg hn]
    refine so_some ⟨rfl, ?_, fun _ => ?_⟩
    · have : i64 (x.toNat : Int) = x.toNat := i64_id (by omega) (by have := x.toNat_lt; omega)
      rw [this]; exact Int.tmod_nonneg _ (by omega)
    · exact Int.tmod_lt_of_pos _ (by omega)
  · rw [if_neg hl]
    have m0 : ∀ z : Int, 0 ≤ z → 0 ≤ Int.tmod z (r.b.length : Int) ∧ Int.tmod z (r.b.length : Int) < (r.b.length : Int) := fun z hz => ⟨Int.tmod_nonneg _ hz, Int.tmod_lt_of_pos _ (by omega)⟩
    have e3 : i64 (i64 (r.p * 7) + 3) = r.p * 7 + 3 := by rw [i64_id (n := r.p * 7) (by omega) (by omega), i64_id (by omega) (by omega)]
    refine so_bind (so_some (P := fun _ => True) trivial) fun _ _ => so_bind (so_idx (m0 _ h0).1 (m0 _ h0).2 fun x _ => trivial) fun x _ => so_bind (so_some (P := fun _ => True) trivial) fun _ _ => ?_
    rw [e3]
    refine so_bind (so_idx (m0 _ (by omega)).1 (m0 _ (by omega)).2 fun x _ => trivial) fun y _ => so_bind (so_some (P := fun _ => True) trivial) fun _ _ => ?_
    rw [if_neg hn]
    refine so_bind (so_some (P := fun _ => True) trivial) fun _ _ => so_some ⟨rfl, ?_, fun _ => Int.tmod_lt_of_pos _ (by omega)⟩
    refine Int.tmod_nonneg _ ?_
    have hx := x.toNat_lt
    have hy := y.toNat_lt
    have hq : 0 ≤ Int.tdiv r.p (r.b.length : Int) := Int.tdiv_nonneg h0 (by omega)
    have hq2 : Int.tdiv r.p (r.b.length : Int) ≤ r.p := Int.tdiv_le_self _ h0
    have f1 : i64 (x.toNat : Int) = x.toNat := i64_id (by omega) (by omega)
    have f2 : i64 (y.toNat : Int) = y.toNat := i64_id (by omega) (by omega)
    have f3 : i64 ((x.toNat : Int) * 131) = x.toNat * 131 := i64_id (by omega) (by omega)
    have f4 : i64 ((y.toNat : Int) * 1117) = y.toNat * 1117 := i64_id (by omega) (by omega)
    have f5 : i64 ((x.toNat : Int) * 131 + y.toNat * 1117) = x.toNat * 131 + y.toNat * 1117 := i64_id (by omega) (by omega)
    have f6 : i64 (r.p * 29) = r.p * 29 := i64_id (by omega) (by omega)
    have f7 : i64 ((x.toNat : Int) * 131 + y.toNat * 1117 + r.p * 29) = x.toNat * 131 + y.toNat * 1117 + r.p * 29 := i64_id (by omega) (by omega)
    have f8 : i64 (Int.tdiv r.p (r.b.length : Int)) = Int.tdiv r.p (r.b.length : Int) := i64_id (by omega) (by omega)
    have f9 : i64 (Int.tdiv r.p (r.b.length : Int) * 53) = Int.tdiv r.p (r.b.length : Int) * 53 := i64_id (by omega) (by omega)
    have fa : i64 ((x.toNat : Int) * 131 + y.toNat * 1117 + r.p * 29 + Int.tdiv r.p (r.b.length : Int) * 53) = x.toNat * 131 + y.toNat * 1117 + r.p * 29 + Int.tdiv r.p (r.b.length : Int) * 53 := i64_id (by omega) (by omega)
    rw [f1, f2, f3, f4, f5, f6, f7, f8, f9, fa]
    generalize hz : (x.toNat : Int) * 131 + y.toNat * 1117 + r.p * 29 + Int.tdiv r.p (r.b.length : Int) * 53 = z
    have z0 : 0 ≤ z := by omega
    have z1 : z ≤ 1000000000000 := by omega
    have d0 : 0 ≤ Int.tdiv z 64 := Int.tdiv_nonneg z0 (by omega)
    have d1 : Int.tdiv z 64 ≤ z := Int.tdiv_le_self _ z0
    rw [i64_id (n := Int.tdiv z 64) (by omega) (by omega)]
    exact xor_nonneg z0 (by omega) d0 (by omega)
theorem num_ok (r : Rd) (xs : List Int) (hx : xs ≠ []) (hb : r.b.length ≤ 2000) (h0 : 0 ≤ r.p) (h1 : r.p ≤ PM) : So (s_l17Rd_num r xs) fun o => o.2 = r.p + 1 ∧ o.1 ∈ xs := by
  unfold s_l17Rd_num
  have hl : 1 ≤ (xs.length : Int) := by have := List.length_pos_iff.2 hx; omega
  refine so_bind (pick_ok r _ hb h0 h1) fun a ⟨ha, hb0, hb1⟩ => ?_
  refine so_bind (so_idx (P := fun x => x ∈ xs) hb0 (hb1 hl) fun x hx => hx) fun x hx => so_some ⟨ha, hx⟩
theorem open_ok (code : List UInt8) : So (s_l17Open code) fun r => r.b.length ≤ 2000 ∧ r.p = 0 := by
  unfold s_l17Open
  refine so_bind (P := fun (c : List UInt8) => c.length ≤ 2000) (so_ite (fun h => ?_) fun h => so_some ?_) fun c hc => so_some ⟨hc, rfl⟩
  · have h := of_decide_eq_true h
    have h2 : sl code 0 2000 = some (code.take 2000) := sl_pre (i := 2000) (by omega)
    rw [h2]
    exact so_some (by rw [List.length_take]; omega)
  · simp only [decide_eq_true_eq] at h; omega
/-! ### models -/
theorem some_ok (r : Rd) (m : Model) (least : Int) (fu : Nat) (hf : FU ≤ fu) (hs : m.sizes.length ≤ 10) (hl : 1 ≤ least) (hl2 : least ≤ 2) (hb : r.b.length ≤ 2000) (h0 : 0 ≤ r.p) (h1 : r.p + 20 ≤ PM) :
    So (s_l6Some fu r m least) fun o => least ≤ (o.1.length : Int) ∧ o.1.length ≤ 30 ∧ r.p ≤ o.2 ∧ o.2 ≤ r.p + 11 := by
  unfold PM at h1
  unfold FU at hf
  unfold s_l6Some
  refine so_bind (so_range (fun i (s : List Int × Int) => s.1.length ≤ i ∧ s.2 = r.p + i) m.sizes _ ⟨Nat.le_refl _, by simp⟩ ?_) ?_
  · rintro i x ⟨out, p⟩ hx ⟨hI1, hI2⟩
    have hi := (List.getElem?_eq_some_iff.1 hx).1
    simp only at hI1 hI2
    unfold s_l6Some_b1
    refine so_bind (pick_ok _ _ hb (by simp only; omega) (by unfold PM; simp only; omega)) fun a ⟨ha, _, _⟩ => ?_
    refine so_bind (P := fun (o : List Int) => o.length ≤ i + 1) (so_ite (fun _ => so_bind (so_app (P := fun (o : List Int) => o.length ≤ i + 1) (by simp; omega) (by simp; omega)) fun o ho => so_some ho) fun _ => so_some (by omega)) fun o ho => ?_
    exact so_some ⟨_, rfl, ho, by simp only at ha ⊢; omega⟩
  rintro _ ⟨⟨out, p⟩, rfl, ho, hp⟩
  simp only at ho hp
  refine so_bind (so_while (fun n (s : List Int × Int) => s.1.length ≤ 10 + (10 - n) ∧ 0 ≤ s.2 ∧ s.2 + n = m.sizes.length) (fun s => s.1.length ≤ 20) m.sizes.length _ fu (by omega) ⟨by simp only; omega, by simp, by simp⟩ ?_) ?_
  · rintro n ⟨o, v⟩ ⟨hI1, hI2, hI3⟩
    simp only at hI1 hI2 hI3
    unfold s_l6Some_b2
    refine so_ite (fun h => ?_) fun h => so_some (.inr ⟨_, rfl, by simp only; omega⟩)
    simp only [Bool.and_eq_true, decide_eq_true_eq] at h
    refine so_bind (P := fun _ => True) (so_ite (fun _ => so_some trivial) fun hne => so_bind (P := fun _ => True) ?_ fun _ _ => so_some trivial) fun b _ => ?_
    · simp only [beq_iff_eq] at hne
      rw [i64_id (by omega) (by omega)]
      exact so_idx (by omega) (by omega) fun _ _ => trivial
    refine so_bind (P := fun (o2 : List Int) => o2.length ≤ o.length + 1) (so_ite (fun _ => so_bind (so_app (P := fun (o2 : List Int) => o2.length ≤ o.length + 1) (by simp; omega) (by simp)) fun o ho => so_some ho) fun _ => so_some (by omega)) fun o2 ho2 => ?_
    rw [i64_id (n := v + 1) (by omega) (by omega)]
    exact so_some (.inl ⟨_, n - 1, rfl, by omega, by simp only; omega, by simp only; omega, by simp only; omega⟩)
  rintro _ ⟨⟨o, v⟩, rfl, ho⟩
  simp only at ho
  refine so_bind (P := fun (o : List Int) => least ≤ (o.length : Int) ∧ o.length ≤ 30) (so_ite (fun _ => ?_) fun h => so_some ?_) ?_
  · have hc : cntF 0 least = some least.toNat := by rw [cntF_of (by omega) (by omega)]; congr 1; omega
    refine so_bind (P := fun k => k = least.toNat) ⟨_, hc, rfl⟩ fun k hk => ?_
    subst hk
    refine so_bind (so_count (fun i (s : List Int) => s.length = i) least.toNat _ rfl ?_) ?_
    · intro i s hi hI
      unfold s_l6Some_b3
      exact so_bind (so_app (P := fun (o : List Int) => o.length = i + 1) (by simp; omega) (by simp; omega)) fun o ho => so_some ⟨_, rfl, ho⟩
    · rintro _ ⟨s, rfl, hs'⟩
      exact so_some ⟨by omega, by omega⟩
  · simp only [Bool.or_eq_true, decide_eq_true_eq, not_or] at h
    omega
  intro o2 ⟨ho2, ho3⟩
  refine so_bind (P := fun (b : Bool × Int) => (b.1 = true → 1 < o2.length) ∧ r.p ≤ b.2 ∧ b.2 ≤ r.p + 11) (so_ite (fun h => ?_) fun _ => so_some ⟨nofun, by simp only; omega, by simp only; omega⟩) ?_
  · have h := of_decide_eq_true h
    refine so_bind (pick_ok _ _ hb (by simp only; omega) (by unfold PM; simp only; omega)) fun a ⟨ha, _, _⟩ => so_some ⟨fun _ => by omega, ?_, ?_⟩ <;> simp only at ha ⊢ <;> omega
  rintro ⟨b, q⟩ ⟨hb1, hb2, hb3⟩
  simp only at hb1 hb2 hb3
  refine so_bind (P := fun (o : List Int) => o.length = o2.length) (so_ite (fun h => ?_) fun _ => so_some rfl) ?_
  · have h := hb1 h
    refine so_bind (so_idx (P := fun _ => True) (by omega) (by omega) fun _ _ => trivial) fun x _ => ?_
    refine so_bind (so_idx (P := fun _ => True) (by omega) (by omega) fun _ _ => trivial) fun y _ => ?_
    refine so_bind (so_idx (P := fun _ => True) (by omega) (by simp; omega) fun _ _ => trivial) fun z _ => ?_
    exact so_some (by simp)
  intro o4 ho4
  exact so_some ⟨by simp only; omega, by simp only; omega, hb2, hb3⟩
theorem draw_ok (r : Rd) (m : Model) (fu : Nat) (hf : FU ≤ fu) (hs : m.sizes.length ≤ 10) (hb : r.b.length ≤ 2000) (h0 : 0 ≤ r.p) (h1 : r.p + 1000 ≤ PM) :
    So (s_l6Draw fu r m) fun o => sRule o.1 ∧ r.p ≤ o.2 ∧ o.2 ≤ r.p + 400 := by
  unfold PM at h1
  have hf' := hf
  unfold FU at hf
  unfold s_l6Draw
  refine so_bind (num_ok _ _ (by simp) hb h0 (by unfold PM; omega)) fun k ⟨hk, hkm⟩ => ?_
  refine so_bind (some_ok _ m 1 fu hf' hs (by omega) (by omega) hb (by simp only; omega) (by unfold PM; simp only; omega)) fun vs ⟨hv1, hv2, hv3, hv4⟩ => ?_
  simp only at hv3 hv4
  refine so_bind (P := fun (o : Int × List Int × List Int × Int × List (List Int)) => sInts o.2.1 ∧ sInts o.2.2.1 ∧ sIntss o.2.2.2.2 ∧ r.p ≤ o.1 ∧ o.1 ≤ r.p + 400) (so_ite (fun _ => ?_) fun _ => ?_) ?_
  · refine so_bind (so_range (fun i (s : Int × List Int) => s.1 = vs.2 + i ∧ s.2.length = i) vs.1 _ ⟨by simp, rfl⟩ ?_) ?_
    · rintro i x ⟨p, out⟩ hx ⟨hI1, hI2⟩
      have hi := (List.getElem?_eq_some_iff.1 hx).1
      simp only at hI1 hI2
      unfold s_l6Draw_b1
      refine so_bind (num_ok _ _ (by simp) hb (by simp only; omega) (by unfold PM; simp only; omega)) fun a ⟨ha, _⟩ => ?_
      simp only at ha
      exact so_bind (so_app (P := fun (o : List Int) => o.length = i + 1) (by simp; omega) (by simp; omega)) fun o ho => so_some ⟨_, rfl, by simp only; omega, ho⟩
    rintro _ ⟨⟨p, out⟩, rfl, hp, ho⟩
    simp only at hp ho
    refine so_bind (num_ok _ _ (by simp) hb (by simp only; omega) (by unfold PM; simp only; omega)) fun a ⟨ha, _⟩ => so_some ⟨?_, ?_, ⟨by simp, by simp⟩, ?_, ?_⟩ <;> simp only at ha ⊢ <;> (try unfold sInts) <;> omega
  · refine so_bind (P := fun (o : Int × List Int × List (List Int)) => sInts o.2.1 ∧ sIntss o.2.2 ∧ r.p ≤ o.1 ∧ o.1 ≤ r.p + 400) (so_ite (fun _ => ?_) fun _ => ?_) fun o ⟨h1, h2, h3, h4⟩ => so_some ⟨h1, by simp [sInts], h2, h3, h4⟩
    · refine so_bind (num_ok _ _ (by simp) hb (by simp only; omega) (by unfold PM; simp only; omega)) fun a ⟨ha, ham⟩ => ?_
      simp only at ha
      have hab : 0 ≤ a.1 ∧ a.1 ≤ 8 := by simp at ham; omega
      refine so_bind (so_while (fun n (s : Int × Int × List (List Int)) => n ≤ 8 ∧ s.1 = n ∧ r.p ≤ s.2.1 ∧ s.2.1 ≤ r.p + 13 + 30 * (8 - n) ∧ s.2.2.length ≤ 8 - n ∧ ∀ x ∈ s.2.2, sInts x) (fun s => r.p ≤ s.2.1 ∧ s.2.1 ≤ r.p + 300 ∧ s.2.2.length ≤ 8 ∧ ∀ x ∈ s.2.2, sInts x) a.1.toNat _ fu (by omega) ⟨by omega, by simp only; omega, by simp only; omega, by simp only; omega, by simp, by simp⟩ ?_) ?_
      · rintro n ⟨i, p, rows⟩ ⟨hn, hI1, hI2, hI3, hI4, hI5⟩
        simp only at hI1 hI2 hI3 hI4 hI5
        unfold s_l6Draw_b2
        refine so_ite (fun hc => ?_) fun _ => so_some (.inr ⟨_, rfl, by simp only; omega, by simp only; omega, by simp only; omega, hI5⟩)
        have hc := of_decide_eq_true hc
        refine so_bind (so_range (fun q (s : List Int × Int) => s.2 = p + q ∧ s.1.length = q) vs.1 _ ⟨by simp, rfl⟩ ?_) ?_
        · rintro q x ⟨out, p2⟩ hx ⟨hJ1, hJ2⟩
          have hi := (List.getElem?_eq_some_iff.1 hx).1
          simp only at hJ1 hJ2
          unfold s_l6Draw_b3
          refine so_bind (pick_ok _ _ hb (by simp only; omega) (by unfold PM; simp only; omega)) fun a ⟨ha, _, _⟩ => ?_
          simp only at ha
          exact so_bind (so_app (P := fun (o : List Int) => o.length = q + 1) (by simp; omega) (by simp; omega)) fun o ho => so_some ⟨_, rfl, by simp only; omega, ho⟩
        rintro _ ⟨⟨row, p2⟩, rfl, hp2, hrow⟩
        simp only at hp2 hrow
        refine so_bind (so_app (P := fun (o : List (List Int)) => o.length ≤ 8 - n + 1 ∧ ∀ x ∈ o, sInts x) (by simp; omega) ⟨by simp; omega, fun x hx => ?_⟩) fun o ⟨ho1, ho2⟩ => ?_
        · rcases List.mem_append.1 hx with h | h
          · exact hI5 x h
          · simp at h; subst h; unfold sInts; omega
        rw [i64_id (by omega) (by omega)]
        exact so_some (.inl ⟨_, n - 1, rfl, by omega, by omega, by simp only; omega, by simp only; omega, by simp only; omega, by simp only; omega, ho2⟩)
      rintro _ ⟨⟨i, p, rows⟩, rfl, h1, h2, h3, h4⟩
      simp only at h1 h2 h3 h4
      exact so_some ⟨by simp only [sInts]; omega, ⟨by simp only; omega, h4⟩, h1, by simp only; omega⟩
    · refine so_bind (P := fun (o : Int × List Int) => sInts o.2 ∧ r.p ≤ o.1 ∧ o.1 ≤ r.p + 400) (so_ite (fun _ => ?_) fun _ => so_some ⟨by simp only [sInts]; omega, by simp only; omega, by simp only; omega⟩) fun o ⟨h1, h2, h3⟩ => so_some ⟨h1, ⟨by simp, by simp⟩, h2, h3⟩
      refine so_bind (some_ok _ m 2 fu hf' hs (by omega) (by omega) hb (by simp only; omega) (by unfold PM; simp only; omega)) fun vs2 ⟨hw1, hw2, hw3, hw4⟩ => ?_
      simp only at hw3 hw4
      have h2 : sl vs2.1 0 2 = some (vs2.1.take 2) := sl_pre (i := 2) (by omega)
      rw [h2]
      exact so_some ⟨by simp only [sInts, List.length_take]; omega, by simp only; omega, by simp only; omega⟩
  · rintro ⟨p, a, b, c, d⟩ ⟨h1, h2, h3, h4, h5⟩
    exact so_some ⟨⟨h1, h2, h3⟩, h4, h5⟩
theorem model_ok (r : Rd) (fu : Nat) (hf : FU ≤ fu) (hb : r.b.length ≤ 2000) (h0 : 0 ≤ r.p) (h1 : r.p + 10000 ≤ PM) : So (s_l6Model fu r) fun o => sModel o.1 ∧ o.1.sizes.length ≤ 4 ∧ o.1.rules.length ≤ 4 ∧ r.p ≤ o.2 ∧ o.2 ≤ r.p + 3000 := by
  unfold PM at h1
  have hf' := hf
  unfold FU at hf
  unfold s_l6Model
  refine so_bind (num_ok _ _ (by simp) hb h0 (by unfold PM; omega)) fun k ⟨hk, hkm⟩ => ?_
  have hkb : 2 ≤ k.1 ∧ k.1 ≤ 4 := by simp at hkm; omega
  refine so_bind (so_while (fun n (s : Int × Int × List Int) => n ≤ 4 ∧ s.1 = n ∧ r.p ≤ s.2.1 ∧ s.2.1 ≤ r.p + 1 + (4 - n) ∧ s.2.2.length + n = k.1.toNat ∧ ∀ x ∈ s.2.2, 0 ≤ x ∧ x ≤ 3) (fun s => r.p ≤ s.2.1 ∧ s.2.1 ≤ r.p + 10 ∧ s.2.2.length = k.1.toNat ∧ ∀ x ∈ s.2.2, 0 ≤ x ∧ x ≤ 3) k.1.toNat _ fu (by omega) ⟨by omega, by simp only; omega, by simp only; omega, by simp only; omega, by simp, by simp⟩ ?_) ?_
  · rintro n ⟨i, p, out⟩ ⟨hn, hI1, hI2, hI3, hI4, hI5⟩
    simp only at hI1 hI2 hI3 hI4 hI5
    unfold s_l6Model_b1
    refine so_ite (fun hc => ?_) fun hc => so_some (.inr ⟨_, rfl, by simp only; omega, by simp only; omega, by simp only [decide_eq_true_eq] at hc; simp only; omega, hI5⟩)
    have hc := of_decide_eq_true hc
    refine so_bind (num_ok _ _ (by simp) hb (by simp only; omega) (by unfold PM; simp only; omega)) fun a ⟨ha, ham⟩ => ?_
    simp only at ha
    refine so_bind (so_app (P := fun (o : List Int) => o.length + (n - 1) = k.1.toNat ∧ ∀ x ∈ o, 0 ≤ x ∧ x ≤ 3) (by simp; omega) ⟨by simp; omega, fun x hx => ?_⟩) fun o ⟨ho1, ho2⟩ => ?_
    · rcases List.mem_append.1 hx with h | h
      · exact hI5 x h
      · simp at h; subst h; simp at ham; omega
    rw [i64_id (by omega) (by omega)]
    exact so_some (.inl ⟨_, n - 1, rfl, by omega, by omega, by simp only; omega, by simp only; omega, by simp only; omega, by simp only; omega, ho2⟩)
  rintro _ ⟨⟨i, p, out⟩, rfl, hp1, hp2, ho1, ho2⟩
  simp only at hp1 hp2 ho1 ho2
  refine so_bind (so_while (fun n (s : Int × List Int) => (s.1 = 0 → n = s.2.length + 1) ∧ 1 ≤ s.2.length ∧ s.2.length ≤ 4 ∧ ∀ x ∈ s.2, 0 ≤ x ∧ x ≤ 3) (fun s => s.2.length ≤ 4) (out.length + 1) _ fu (by omega) ⟨fun _ => rfl, by simp only; omega, by simp only; omega, ho2⟩ ?_) ?_
  · rintro n ⟨c, out⟩ ⟨hI1, hI0, hI2, hI3⟩
    simp only at hI0 hI1 hI2 hI3
    unfold s_l6Model_b2
    refine so_ite (fun hc => ?_) fun _ => so_some (.inr ⟨_, rfl, hI2⟩)
    have hc : c = 0 := by simpa using hc
    have hn := hI1 hc
    subst hc
    refine so_bind (so_range (fun q (s : Int) => (q : Int) ≤ s ∧ s ≤ 4 * q) out _ ⟨by simp, by simp⟩ ?_) ?_
    · intro q x s hx ⟨hJ1, hJ2⟩
      have hi := (List.getElem?_eq_some_iff.1 hx).1
      have hxm := hI3 x (List.mem_of_getElem? hx)
      show So (some (Lo.cont (i64 (i64 (s + x) + 1)))) _
      rw [i64_id (n := s + x) (by omega) (by omega), i64_id (by omega) (by omega)]
      exact so_some ⟨_, rfl, by omega, by omega⟩
    rintro _ ⟨s, rfl, hs1, hs2⟩
    refine so_bind (P := fun (o : Int × List Int) => (o.1 = 0 → o.2.length + 1 ≤ out.length) ∧ 1 ≤ o.2.length ∧ o.2.length ≤ 4 ∧ ∀ x ∈ o.2, 0 ≤ x ∧ x ≤ 3) (so_ite (fun hc => ?_) fun hc => so_some ⟨fun h => ?_, hI0, hI2, hI3⟩) ?_
    · have hc := of_decide_eq_true hc
      have h2 : sl out 0 (i64 ((out.length : Int) - 1)) = some (out.take (out.length - 1)) := by
        rw [i64_id (by omega) (by omega)]
        have := sl_pre (xs := out) (i := out.length - 1) (by omega)
        rwa [show ((out.length - 1 : Nat) : Int) = (out.length : Int) - 1 from by omega] at this
      rw [h2]
      exact so_some ⟨fun _ => by simp only [List.length_take]; omega, by simp only [List.length_take]; omega, by simp only [List.length_take]; omega, fun x hx => hI3 x (List.mem_of_mem_take hx)⟩
    · simp only at h; omega
    · rintro ⟨c2, o2⟩ ⟨h1, h2, h3, h4⟩
      simp only at h1 h2 h3 h4
      by_cases hz : c2 = 0
      · exact so_some (.inl ⟨_, o2.length + 1, rfl, by have := h1 hz; omega, fun _ => rfl, h2, h3, h4⟩)
      · exact so_some (.inl ⟨_, 0, rfl, by omega, fun h => absurd h hz, h2, h3, h4⟩)
  rintro _ ⟨⟨c, sz⟩, rfl, hsz⟩
  simp only at hsz
  refine so_bind (num_ok _ _ (by simp) hb (by simp only; omega) (by unfold PM; simp only; omega)) fun q ⟨hq, hqm⟩ => ?_
  simp only at hq
  have hqb : 0 ≤ q.1 ∧ q.1 ≤ 4 := by simp at hqm; omega
  refine so_bind (so_while (fun n (s : Int × Int × List Rule) => n ≤ 4 ∧ s.1 = n ∧ r.p ≤ s.2.1 ∧ s.2.1 ≤ r.p + 11 + 400 * (4 - n) ∧ s.2.2.length + n = q.1.toNat ∧ ∀ x ∈ s.2.2, sRule x) (fun s => r.p ≤ s.2.1 ∧ s.2.1 ≤ r.p + 3000 ∧ s.2.2.length ≤ 4 ∧ ∀ x ∈ s.2.2, sRule x) q.1.toNat _ fu (by omega) ⟨by omega, by simp only; omega, by simp only; omega, by simp only; omega, by simp, by simp⟩ ?_) ?_
  · rintro n ⟨i, p, out⟩ ⟨hn, hI1, hI2, hI3, hI4, hI5⟩
    simp only at hI1 hI2 hI3 hI4 hI5
    unfold s_l6Model_b4
    refine so_ite (fun hc => ?_) fun hc => so_some (.inr ⟨_, rfl, by simp only; omega, by simp only; omega, by simp only [decide_eq_true_eq] at hc; simp only; omega, hI5⟩)
    have hc := of_decide_eq_true hc
    refine so_bind (draw_ok _ _ fu hf' (by simp only; omega) hb (by simp only; omega) (by unfold PM; simp only; omega)) fun a ⟨ha, ha1, ha2⟩ => ?_
    simp only at ha1 ha2
    refine so_bind (so_app (P := fun (o : List Rule) => o.length + (n - 1) = q.1.toNat ∧ ∀ x ∈ o, sRule x) (by simp; omega) ⟨by simp; omega, fun x hx => ?_⟩) fun o ⟨ho1, ho2⟩ => ?_
    · rcases List.mem_append.1 hx with h | h
      · exact hI5 x h
      · simp at h; subst h; exact ha
    rw [i64_id (by omega) (by omega)]
    exact so_some (.inl ⟨_, n - 1, rfl, by omega, by omega, by simp only; omega, by simp only; omega, by simp only; omega, by simp only; omega, ho2⟩)
  rintro _ ⟨⟨i, p, rules⟩, rfl, h1, h2, h3, h4⟩
  simp only at h1 h2 h3 h4
  exact so_some ⟨⟨by simp only [sInts]; omega, by simp only; omega, h4⟩, hsz, h3, h1, h2⟩
theorem copy_ok (m : Model) (h : sModel m) : s_l6Copy m = some m := by
  have hz : ∀ xs : List Int, sInts xs → app [] xs = some xs := fun xs hx => by unfold sInts at hx; rw [app_le (by simp; omega)]; rfl
  obtain ⟨h1, h2, h3⟩ := h
  unfold s_l6Copy
  rw [hz _ h1, Option.bind_some]
  rw [range_map (fun x => x) m.rules ?_]
  · simp
  intro i x out hx hi
  obtain ⟨k1, k2, k3, k4⟩ := h3 x (List.mem_of_getElem? hx)
  have hl := (List.getElem?_eq_some_iff.1 hx).1
  show (app [] x.vars).bind _ = _
  rw [hz _ k1, Option.bind_some, hz _ k2, Option.bind_some]
  rw [range_map (fun x => x) x.rows ?_]
  · rw [Option.bind_some]
    simp only [List.map_id']
    rw [app_le (by simp; omega)]
    rfl
  intro j y out2 hy hj
  have hl2 := (List.getElem?_eq_some_iff.1 hy).1
  show (app [] y).bind _ = _
  rw [hz _ (k4 y (List.mem_of_getElem? hy)), Option.bind_some, app_le (by simp; omega)]
  rfl
theorem mutate_ok (r : Rd) (m : Model) (fu : Nat) (hf : FU ≤ fu) (hm : sModel m) (hb : r.b.length ≤ 2000) (h0 : 0 ≤ r.p) (h1 : r.p + 1000 ≤ PM) : s_l6Mutate fu r m = some () := by
  unfold PM at h1
  unfold FU at hf
  refine so_eq ?_
  unfold s_l6Mutate
  rw [copy_ok m hm]
  have hm0 := hm
  obtain ⟨hm1, hm2, hm3⟩ := hm
  have hset : ∀ (y : Rule), sRule y → sRules (m.rules.set (Int.toNat 0) y) := fun y hy => ⟨by rw [List.length_set]; exact hm2, fun x hx => by
    rcases List.mem_or_eq_of_mem_set hx with h | h
    · exact hm3 x h
    · subst h; exact hy⟩
  refine so_bind (P := fun x => x = m) (so_some rfl) fun x hx => ?_
  subst hx
  refine so_bind (pick_ok _ _ hb h0 (by unfold PM; omega)) fun k ⟨hk, hk0, hk1⟩ => ?_
  have hend : ∀ p : Int, p ≤ r.p + 3 → r.p ≤ p → So (assertM (sModel x ∧ rdOk r.p p)) fun _ => True := fun p h1 h2 => so_assert ⟨hm0, h2, by omega⟩
  refine so_ite (fun _ => so_ite (fun hl => ?_) fun _ => hend _ (by omega) (by omega)) fun _ => ?_
  · have hl := of_decide_eq_true hl
    refine so_bind (num_ok _ _ (by simp) hb (by simp only; omega) (by unfold PM; simp only; omega)) fun a ⟨ha, ham⟩ => ?_
    simp only at ha
    refine so_bind (so_idx (P := fun _ => True) (by omega) (by omega) fun _ _ => trivial) fun z _ => ?_
    exact so_assert ⟨⟨by unfold sInts at hm1 ⊢; rw [List.length_set]; exact hm1, hm2, hm3⟩, by unfold rdOk; omega⟩
  refine so_ite (fun _ => ?_) fun _ => so_ite (fun _ => so_ite (fun hl => ?_) fun _ => hend _ (by omega) (by omega)) fun _ => so_ite (fun _ => ?_) fun _ => so_ite (fun _ => so_ite (fun hl => ?_) fun _ => hend _ (by omega) (by omega)) fun _ => so_ite (fun _ => ?_) fun _ => hend _ (by omega) (by omega)
  · refine so_bind (so_while (fun n (s : List Int) => s.length ≤ 1000 ∧ n + s.length = 1000) (fun s => s.length ≤ 1000) (1000 - x.sizes.length) _ fu (by omega) ⟨hm1, by unfold sInts at hm1; omega⟩ ?_) ?_
    · intro n s ⟨hI1, hI2⟩
      unfold s_l6Mutate_b1
      refine so_ite (fun hc => ?_) fun _ => so_some (.inr ⟨_, rfl, hI1⟩)
      have hc := of_decide_eq_true hc
      refine so_bind (so_app (P := fun (o : List Int) => o.length = s.length + 1) (by simp; omega) (by simp)) fun o ho => so_some (.inl ⟨_, n - 1, rfl, by omega, by omega, by omega⟩)
    · rintro _ ⟨s, rfl, hs⟩
      exact so_assert ⟨⟨hs, hm2, hm3⟩, by unfold rdOk; omega⟩
  · have hl := of_decide_eq_true hl
    refine so_bind (num_ok _ _ (by simp) hb (by simp only; omega) (by unfold PM; simp only; omega)) fun a ⟨ha, ham⟩ => ?_
    simp only at ha
    refine so_bind (so_idx (P := fun z => sRule z) (by omega) (by omega) fun z hz => hm3 z hz) fun z hz => ?_
    exact so_assert ⟨⟨hm1, hset _ ⟨hz.1, hz.2.1, hz.2.2⟩⟩, by unfold rdOk; omega⟩
  · refine so_bind (P := fun b => b = true → ∃ z, idx x.rules (i64 ((x.rules.length : Int) - 1)) = some z ∧ 0 < z.vars.length) (so_ite (fun hl => ?_) fun _ => so_some nofun) fun b hbb => so_ite (fun hl => ?_) fun _ => hend _ (by omega) (by omega)
    · have hl := of_decide_eq_true hl
      obtain ⟨z, hz, _⟩ : So (idx x.rules (i64 ((x.rules.length : Int) - 1))) fun _ => True := by
        rw [i64_id (by omega) (by omega)]
        exact so_idx (by omega) (by omega) fun _ _ => trivial
      rw [hz]
      refine so_some fun h => ⟨z, rfl, ?_⟩
      have := of_decide_eq_true h
      omega
    · obtain ⟨z, hz, hzl⟩ := hbb hl
      rw [hz]
      refine so_bind (so_some (P := fun y => y = z) rfl) fun y hy => ?_
      subst hy
      refine so_bind (num_ok _ _ (by simp) hb (by simp only; omega) (by unfold PM; simp only; omega)) fun a ⟨ha, ham⟩ => ?_
      simp only at ha
      refine so_bind (so_idx (P := fun _ => True) (by omega) (by omega) fun _ _ => trivial) fun z' _ => ?_
      have hzm := hm3 y (List.mem_of_getElem? (idx_some hz).2.1)
      refine so_assert ⟨⟨hm1, by rw [List.length_set]; exact hm2, fun q hq => ?_⟩, by unfold rdOk; omega⟩
      rcases List.mem_or_eq_of_mem_set hq with h | h
      · exact hm3 q h
      · subst h; exact ⟨by have := hzm.1; unfold sInts at this ⊢; rw [List.length_set]; exact this, hzm.2⟩
  · have hl := of_decide_eq_true hl
    refine so_bind (num_ok _ _ (by simp) hb (by simp only; omega) (by unfold PM; simp only; omega)) fun a ⟨ha, ham⟩ => ?_
    simp only at ha
    refine so_bind (so_idx (P := fun z => sRule z) (by omega) (by omega) fun z hz => hm3 z hz) fun z hz => ?_
    exact so_assert ⟨⟨hm1, hset _ ⟨hz.1, hz.2.1, hz.2.2⟩⟩, by unfold rdOk; omega⟩
  · exact so_assert ⟨⟨by simp [sInts], by simp, by simp⟩, by unfold rdOk; omega⟩
theorem cells_ok (r : Rd) (m : Model) (hm : m.sizes.length ≤ 1000) (hb : r.b.length ≤ 2000) (h0 : 0 ≤ r.p) (h1 : r.p + 2000 ≤ PM) : So (s_l6DrawCells r m) fun o => sOut o.1 ∧ r.p ≤ o.2 ∧ o.2 ≤ r.p + 1010 := by
  unfold PM at h1
  unfold s_l6DrawCells
  refine so_bind (so_range (fun i (s : List Int × Int) => s.1.length = i ∧ s.2 = r.p + i) m.sizes _ ⟨rfl, by simp⟩ ?_) ?_
  · rintro i x ⟨out, p⟩ hx ⟨hI1, hI2⟩
    have hi := (List.getElem?_eq_some_iff.1 hx).1
    simp only at hI1 hI2
    unfold s_l6DrawCells_b1
    refine so_bind (P := fun _ => True) (so_ite (fun _ => so_some trivial) fun _ => so_some trivial) fun n _ => ?_
    refine so_bind (pick_ok _ _ hb (by simp only; omega) (by unfold PM; simp only; omega)) fun a ⟨ha, _, _⟩ => ?_
    simp only at ha
    exact so_bind (so_app (P := fun (o : List Int) => o.length = i + 1) (by simp; omega) (by simp; omega)) fun o ho => so_some ⟨_, rfl, ho, by simp only; omega⟩
  rintro _ ⟨⟨out, p⟩, rfl, ho, hp⟩
  simp only at ho hp
  refine so_bind (pick_ok _ _ hb (by simp only; omega) (by unfold PM; simp only; omega)) fun k ⟨hk, _, _⟩ => ?_
  simp only at hk
  refine so_bind (P := fun (o : List Int × Int) => o.1.length ≤ 1001 ∧ r.p ≤ o.2 ∧ o.2 ≤ r.p + 1010) (so_ite (fun _ => ?_) fun _ => ?_) fun ⟨a, b⟩ ⟨h1, h2, h3⟩ => so_some ⟨by unfold sOut; simp only at h1 ⊢; omega, h2, h3⟩
  · exact so_bind (so_app (P := fun (o : List Int) => o.length ≤ 1001) (by simp; omega) (by simp; omega)) fun o ho => so_some ⟨ho, by simp only; omega, by simp only; omega⟩
  refine so_bind (P := fun (o : List Int × Int) => o.1.length ≤ 1001 ∧ r.p ≤ o.2 ∧ o.2 ≤ r.p + 1010) (so_ite (fun _ => ?_) fun _ => so_some ⟨by simp only; omega, by simp only; omega, by simp only; omega⟩) fun ⟨a, b⟩ h => so_some h
  refine so_bind (P := fun (o : List Int × Int) => o.1.length ≤ 1001 ∧ r.p ≤ o.2 ∧ o.2 ≤ r.p + 1010) (so_ite (fun hl => ?_) fun _ => so_some ⟨by simp only; omega, by simp only; omega, by simp only; omega⟩) fun ⟨a, b⟩ h => so_some h
  have hl := of_decide_eq_true hl
  refine so_bind (num_ok _ _ (by simp) hb (by simp only; omega) (by unfold PM; simp only; omega)) fun a ⟨ha, _⟩ => ?_
  simp only at ha
  refine so_bind (so_idx (P := fun _ => True) (by omega) (by omega) fun _ _ => trivial) fun z _ => so_some ⟨by simp only [List.length_set]; omega, by simp only; omega, by simp only; omega⟩
theorem drawBoolVar_ok (code : List UInt8) (fu : Nat) (hf : FU ≤ fu) : s_DrawBoolVar fu code = some () := by
  refine so_eq ?_
  unfold s_DrawBoolVar
  refine so_bind (open_ok code) fun r ⟨hb, hp⟩ => ?_
  refine so_bind (model_ok r fu hf hb (by omega) (by unfold PM; omega)) fun m ⟨hm, _, _, hp1, hp2⟩ => ?_
  refine so_anyB (m.1, m.2) (mutate_ok _ _ fu hf hm hb (by simp only; omega) (by unfold PM; simp only; omega)) ⟨hm, by unfold rdOk; simp only; omega⟩ fun o ⟨ho, hr1, hr2⟩ => ?_
  refine so_bind (num_ok _ _ (by simp) hb (by simp only; omega) (by unfold PM; simp only; omega)) fun a ⟨ha, _⟩ => ?_
  simp only at ha
  refine so_bind (num_ok _ _ (by simp) hb (by simp only; omega) (by unfold PM; simp only; omega)) fun b ⟨hb', _⟩ => ?_
  exact so_assert ho
theorem drawRuleHolds_ok (code : List UInt8) (fu : Nat) (hf : FU ≤ fu) : s_DrawRuleHolds fu code = some () := by
  refine so_eq ?_
  unfold s_DrawRuleHolds
  refine so_bind (open_ok code) fun r ⟨hb, hp⟩ => ?_
  refine so_bind (model_ok r fu hf hb (by omega) (by unfold PM; omega)) fun m ⟨hm, _, _, hp1, hp2⟩ => ?_
  refine so_anyB (m.1, m.2) (mutate_ok _ _ fu hf hm hb (by simp only; omega) (by unfold PM; simp only; omega)) ⟨hm, by unfold rdOk; simp only; omega⟩ fun o ⟨ho, hr1, hr2⟩ => ?_
  refine so_bind (num_ok _ _ (by simp) hb (by simp only; omega) (by unfold PM; simp only; omega)) fun a ⟨ha, _⟩ => ?_
  simp only at ha
  refine so_bind (cells_ok _ _ ho.1 hb (by simp only; omega) (by unfold PM; simp only; omega)) fun c ⟨hc, _, _⟩ => ?_
  exact so_assert ⟨ho, hc⟩
theorem drawCells_ok (code : List UInt8) (fu : Nat) (hf : FU ≤ fu) : s_DrawCellsValid fu code = some () := by
  refine so_eq ?_
  unfold s_DrawCellsValid
  refine so_bind (open_ok code) fun r ⟨hb, hp⟩ => ?_
  refine so_bind (model_ok r fu hf hb (by omega) (by unfold PM; omega)) fun m ⟨hm, _, _, hp1, hp2⟩ => ?_
  refine so_anyB (m.1, m.2) (mutate_ok _ _ fu hf hm hb (by simp only; omega) (by unfold PM; simp only; omega)) ⟨hm, by unfold rdOk; simp only; omega⟩ fun o ⟨ho, hr1, hr2⟩ => ?_
  refine so_bind (cells_ok _ _ ho.1 hb (by simp only; omega) (by unfold PM; simp only; omega)) fun c ⟨hc, _, _⟩ => ?_
  exact so_assert ⟨ho, hc⟩
theorem s0 : sModel ⟨[], []⟩ := ⟨by simp [sInts], by simp, by simp⟩
theorem drawSolves_ok (code : List UInt8) (fu : Nat) (hf : FU ≤ fu) : s_DrawSolvesModel fu code = some () := by
  refine so_eq ?_
  unfold s_DrawSolvesModel
  exact so_anyB (⟨[], []⟩, []) (drawCells_ok code fu hf) ⟨s0, by simp [sOut]⟩ fun o ho => so_assert ho
theorem drawValid_ok (code : List UInt8) (fu : Nat) (hf : FU ≤ fu) : s_DrawModelValid fu code = some () := by
  refine so_eq ?_
  unfold s_DrawModelValid
  refine so_bind (open_ok code) fun r ⟨hb, hp⟩ => ?_
  refine so_bind (model_ok r fu hf hb (by omega) (by unfold PM; omega)) fun m ⟨hm, _, _, hp1, hp2⟩ => ?_
  exact so_anyB (m.1, m.2) (mutate_ok _ _ fu hf hm hb (by simp only; omega) (by unfold PM; simp only; omega)) ⟨hm, by unfold rdOk; simp only; omega⟩ fun o ⟨ho, hr1, hr2⟩ => so_assert ho
theorem drawCount_ok (code : List UInt8) (fu : Nat) (hf : FU ≤ fu) : s_DrawCountModel fu code = some () := by
  refine so_eq ?_
  unfold s_DrawCountModel
  exact so_anyB ⟨[], []⟩ (drawValid_ok code fu hf) s0 fun o ho => so_assert ho
theorem small_of {m : Model} (h : sModel m) : m.sizes.length ≤ 1000 ∧ m.rules.length ≤ 1000 := ⟨h.1, h.2.1⟩
end Go.L
