/- The plain law: what the functions compute, and that it answers as the statement says. -/
import Derived.Test.YtbjllamkfmejlaaGreatG10
import Derived.Test.YtbjllamkfmejlaaGreatD1
namespace Go.L
open Go Go.E
set_option linter.unusedVariables false
def FU : Nat := 1000000
def ML : Nat := 9223372036854775807
section
variable {α β σ τ : Type}
theorem idx_nat (xs : List α) (i : Nat) : idx xs (i : Int) = xs[i]? := by
  unfold idx; rw [if_pos (Int.natCast_nonneg i), Int.toNat_natCast]
theorem idx_lt {xs : List α} {i : Nat} (h : i < xs.length) : idx xs (i : Int) = some xs[i] := by rw [idx_nat, List.getElem?_eq_getElem h]
theorem idx_get {xs : List α} {k : Int} (h0 : 0 ≤ k) (h : k.toNat < xs.length) : idx xs k = some xs[k.toNat] := by
  unfold idx; rw [if_pos h0, List.getElem?_eq_getElem h]
theorem mkN_le {n : Nat} (x : α) (h : n ≤ 4294967296) : mkN (n : Int) x = some (List.replicate n x) := by
  unfold mkN
  rw [if_pos (by omega), Int.toNat_natCast]
theorem sl_pre {xs : List α} {i : Nat} (h : i ≤ xs.length) : sl xs 0 (i : Int) = some (xs.take i) := by
  unfold sl
  rw [if_pos (by omega), Int.toNat_natCast]
  rfl
theorem app_le {xs ys : List α} (h : xs.length + ys.length ≤ 4294967296) : app xs ys = some (xs ++ ys) := if_pos h
theorem cntF_nat {n : Nat} (h : n ≤ 4294967296) : cntF 0 (n : Int) = some n := by
  unfold cntF
  rw [if_pos (by omega)]
  congr 1
theorem cntF_of {s : Nat} {e : Int} (h : e ≤ 4294967296) (hs : s ≤ 4294967296) : cntF s e = some (e - s).toNat := if_pos ⟨h, hs⟩
theorem count_range (b : Nat → σ → Option (Lo σ τ)) : ∀ (n i j : Nat) (s : σ), countL b n i s = rangeL (fun _ k s => b k s) (List.range' i n) j s
  | 0, i, j, s => rfl
  | n + 1, i, j, s => by
    show (b i s).bind _ = rangeL _ (List.range' i (n + 1)) j s
    rw [List.range'_succ]
    show _ = (b i s).bind _
    congr 1
    funext o
    cases o with
    | cont s' => exact count_range b n (i + 1) (j + 1) s'
    | brk s' => rfl
    | out t => rfl
theorem range_to {b : Nat → α → σ → Option (Lo σ τ)} (F : Nat → σ) (xs0 : List α) (h : ∀ i x, xs0[i]? = some x → b i x (F i) = some (.cont (F (i + 1)))) :
    rangeL b xs0 0 (F 0) = some (.nx (F xs0.length)) := by
  have key : ∀ (xs : List α) (i : Nat), xs0.drop i = xs → i ≤ xs0.length → rangeL b xs i (F i) = some (.nx (F xs0.length)) := by
    intro xs
    induction xs with
    | nil =>
      intro i hd hi
      rw [List.drop_eq_nil_iff] at hd
      obtain rfl : i = xs0.length := by omega
      rfl
    | cons x xs ih =>
      intro i hd hi
      have hx := drop_idx hd
      rw [idx_nat] at hx
      show (b i x (F i)).bind _ = _
      rw [h i x hx]
      exact ih (i + 1) (drop_next hd) (List.getElem?_eq_some_iff.1 hx).1
  exact key xs0 0 rfl (Nat.zero_le _)
theorem count_to {b : Nat → σ → Option (Lo σ τ)} (F : Nat → σ) : ∀ (n s : Nat), (∀ i, s ≤ i → i < s + n → b i (F i) = some (.cont (F (i + 1)))) → countL b n s (F s) = some (.nx (F (s + n)))
  | 0, s, _ => rfl
  | n + 1, s, h => by
    show (b s (F s)).bind _ = _
    rw [h s (Nat.le_refl _) (by omega)]
    show countL b n (s + 1) (F (s + 1)) = _
    rw [count_to F n (s + 1) fun i h1 h2 => h i (by omega) (by omega)]
    congr 3; omega
theorem range_inv {b : Nat → α → σ → Option (Lo σ τ)} (xs0 : List α) (I : Nat → σ → Prop) (Q : Jn σ τ → Prop) (h0 : ∀ s, I xs0.length s → Q (.nx s))
    (h : ∀ i x s, xs0[i]? = some x → I i s → ∃ o, b i x s = some o ∧ (match o with | .cont s' => I (i + 1) s' | .brk s' => Q (.nx s') | .out t => Q (.out t))) (s : σ) (hs : I 0 s) :
    ∃ j, rangeL b xs0 0 s = some j ∧ Q j := by
  have key : ∀ (xs : List α) (i : Nat) (s : σ), xs0.drop i = xs → i ≤ xs0.length → I i s → ∃ j, rangeL b xs i s = some j ∧ Q j := by
    intro xs
    induction xs with
    | nil =>
      intro i s hd hi hI
      rw [List.drop_eq_nil_iff] at hd
      obtain rfl : i = xs0.length := by omega
      exact ⟨_, rfl, h0 s hI⟩
    | cons x xs ih =>
      intro i s hd hi hI
      have hx := drop_idx hd
      rw [idx_nat] at hx
      obtain ⟨o, hb, ho⟩ := h i x s hx hI
      have hl := (List.getElem?_eq_some_iff.1 hx).1
      cases o with
      | cont s' =>
        obtain ⟨j, hj, hQ⟩ := ih (i + 1) s' (drop_next hd) hl ho
        exact ⟨j, by show (b i x s).bind _ = _; rw [hb]; exact hj, hQ⟩
      | brk s' => exact ⟨_, by show (b i x s).bind _ = _; rw [hb]; rfl, ho⟩
      | out t => exact ⟨_, by show (b i x s).bind _ = _; rw [hb]; rfl, ho⟩
  exact key xs0 0 s rfl (Nat.zero_le _) hs
theorem count_inv {b : Nat → σ → Option (Lo σ τ)} (I : Nat → σ → Prop) (Q : Jn σ τ → Prop) : ∀ (n k : Nat) (h0 : ∀ s, I (k + n) s → Q (.nx s))
    (h : ∀ i s, k ≤ i → i < k + n → I i s → ∃ o, b i s = some o ∧ (match o with | .cont s' => I (i + 1) s' | .brk s' => Q (.nx s') | .out t => Q (.out t))) (s : σ) (hs : I k s),
    ∃ j, countL b n k s = some j ∧ Q j
  | 0, k, h0, h, s, hs => ⟨_, rfl, h0 s hs⟩
  | n + 1, k, h0, h, s, hs => by
    obtain ⟨o, hb, ho⟩ := h k s (Nat.le_refl _) (by omega) hs
    cases o with
    | cont s' =>
      obtain ⟨j, hj, hQ⟩ := count_inv I Q n (k + 1) (fun s hs => h0 s (by rwa [show k + (n + 1) = k + 1 + n from by omega])) (fun i s h1 h2 => h i s (by omega) (by omega)) s' ho
      exact ⟨j, by show (b k s).bind _ = _; rw [hb]; exact hj, hQ⟩
    | brk s' => exact ⟨_, by show (b k s).bind _ = _; rw [hb]; rfl, ho⟩
    | out t => exact ⟨_, by show (b k s).bind _ = _; rw [hb]; rfl, ho⟩
theorem while_inv {b : σ → Option (Lo σ τ)} (I : Nat → σ → Prop) (Q : Jn σ τ → Prop)
    (h : ∀ n s, I n s → ∃ o, b s = some o ∧ (match o with | .cont s' => ∃ m, m < n ∧ I m s' | .brk s' => Q (.nx s') | .out t => Q (.out t))) :
    ∀ k n s, I n s → n < k → ∃ j, whileL b k s = some j ∧ Q j := by
  intro k
  induction k with
  | zero => intro n s _ h; omega
  | succ k ih =>
    intro n s hI hk
    obtain ⟨o, hb, ho⟩ := h n s hI
    cases o with
    | cont s' =>
      obtain ⟨m, hm, hI'⟩ := ho
      obtain ⟨j, hj, hQ⟩ := ih m s' hI' (by omega)
      exact ⟨j, by show (b s).bind _ = _; rw [hb]; exact hj, hQ⟩
    | brk s' => exact ⟨_, by show (b s).bind _ = _; rw [hb]; rfl, ho⟩
    | out t => exact ⟨_, by show (b s).bind _ = _; rw [hb]; rfl, ho⟩
def allFrom (q : Nat → α → Bool) : List α → Nat → Bool
  | [], _ => true
  | x :: xs, i => q i x && allFrom q xs (i + 1)
theorem allFrom_const (q : α → Bool) : ∀ (xs : List α) (i : Nat), allFrom (fun _ x => q x) xs i = xs.all q
  | [], _ => rfl
  | x :: xs, i => by rw [allFrom, allFrom_const q xs, List.all_cons]
theorem allFrom_iff (q : Nat → α → Bool) : ∀ (xs : List α) (k : Nat), allFrom q xs k = true ↔ ∀ i x, xs[i]? = some x → q (k + i) x = true
  | [], k => by simp [allFrom]
  | x :: xs, k => by
    rw [allFrom, Bool.and_eq_true, allFrom_iff q xs (k + 1)]
    constructor
    · rintro ⟨h0, h⟩ i y hy
      cases i with
      | zero => simp at hy; subst hy; simpa using h0
      | succ i => have := h i y (by simpa using hy); rwa [show k + 1 + i = k + (i + 1) from by omega] at this
    · intro h
      exact ⟨by simpa using h 0 x rfl, fun i y hy => by have := h (i + 1) y (by simpa using hy); rwa [show k + (i + 1) = k + 1 + i from by omega] at this⟩
theorem range_allI (q : Nat → α → Bool) (t : τ) {b : Nat → α → Unit → Option (Lo Unit τ)} (xs0 : List α)
    (hb : ∀ (i : Nat) (x : α), xs0[i]? = some x → b i x () = some (if q i x then .cont () else .out t)) : rangeL b xs0 0 () = some (if allFrom q xs0 0 then .nx () else .out t) := by
  have key : ∀ (xs : List α) (i : Nat), xs0.drop i = xs → rangeL b xs i () = some (if allFrom q xs i then .nx () else .out t) := by
    intro xs
    induction xs with
    | nil => intro i _; rfl
    | cons x xs ih =>
      intro i h
      have hx := drop_idx h
      rw [idx_nat] at hx
      show (b i x ()).bind _ = _
      rw [hb i x hx]
      cases hq : q i x with
      | true => show rangeL b xs (i + 1) () = _; rw [ih (i + 1) (drop_next h)]; simp [allFrom, hq]
      | false => simp [allFrom, hq]
  exact key xs0 0 rfl
theorem range_all (q : α → Bool) (t : τ) {b : Nat → α → Unit → Option (Lo Unit τ)} (xs0 : List α)
    (hb : ∀ (i : Nat) (x : α), xs0[i]? = some x → b i x () = some (if q x then .cont () else .out t)) : rangeL b xs0 0 () = some (if xs0.all q then .nx () else .out t) := by
  rw [range_allI (fun _ => q) t xs0 hb, allFrom_const]
theorem range_any (q : α → Bool) (t : τ) {b : Nat → α → Unit → Option (Lo Unit τ)} (xs0 : List α)
    (hb : ∀ (i : Nat) (x : α), xs0[i]? = some x → b i x () = some (if q x then .out t else .cont ())) : rangeL b xs0 0 () = some (if xs0.any q then .out t else .nx ()) := by
  rw [range_all (fun x => !q x) t xs0 fun i x hx => by rw [hb i x hx]; cases q x <;> rfl]
  rw [List.any_eq_not_all_not]
  cases xs0.all (fun x => !q x) <;> rfl
theorem any_not_all (q : α → Bool) (xs : List α) : xs.any (fun x => !q x) = !xs.all q := by
  induction xs with
  | nil => rfl
  | cons x xs ih => rw [List.any_cons, List.all_cons, ih]; cases q x <;> cases xs.all q <;> rfl
theorem range_map {b : Nat → α → List β → Option (Lo (List β) τ)} (f : α → β) (xs0 : List α) (h : ∀ i x out, xs0[i]? = some x → out.length = i → b i x out = some (.cont (out ++ [f x]))) :
    rangeL b xs0 0 [] = some (.nx (xs0.map f)) := by
  have := range_to (b := b) (fun i => (xs0.take i).map f) xs0 (by
    intro i x hx
    have hi := (List.getElem?_eq_some_iff.1 hx).1
    rw [h i x _ hx (by simp; omega)]
    rw [List.take_add_one, hx]
    simp)
  simpa using this
theorem ite_false' {a b : α} : (if false = true then a else b) = b := rfl
theorem range_index {q : α → Bool} {b : Nat → α → Unit → Option (Lo Unit Int)} (xs0 : List α) (hb : ∀ i x, xs0[i]? = some x → b i x () = some (if q x then .out (i : Int) else .cont ())) :
    ∃ j, rangeL b xs0 0 () = some j ∧ (match j with | .nx _ => xs0.any q = false | .out t => 0 ≤ t ∧ xs0.any q = true) := by
  refine range_inv xs0 (fun i _ => (xs0.take i).any q = false) _ ?_ ?_ () (by simp)
  · intro s h; simpa using h
  · intro i x s hx hI
    have hi := (List.getElem?_eq_some_iff.1 hx).1
    refine ⟨_, hb i x hx, ?_⟩
    cases hq : q x with
    | true => exact ⟨by omega, List.any_eq_true.2 ⟨x, List.mem_of_getElem? hx, hq⟩⟩
    | false =>
      show (xs0.take (i + 1)).any q = false
      rw [List.take_add_one, hx, List.any_append, hI]
      simp [hq]
end
end Go.L
namespace Go.L
open Go Go.E
set_option linter.unusedVariables false
set_option linter.unusedSimpArgs false
set_option maxRecDepth 100000
def So {α : Type} (x : Option α) (P : α → Prop) : Prop := ∃ a, x = some a ∧ P a
section
variable {α β σ τ : Type}
theorem so_some {a : α} {P : α → Prop} (h : P a) : So (some a) P := ⟨a, rfl, h⟩
theorem so_bind {x : Option α} {f : α → Option β} {P : α → Prop} {Q : β → Prop} (hx : So x P) (hf : ∀ a, P a → So (f a) Q) : So (x.bind f) Q := by
  obtain ⟨a, rfl, ha⟩ := hx
  exact hf a ha
theorem so_ite {c : Prop} [Decidable c] {x y : Option α} {P : α → Prop} (h1 : c → So x P) (h2 : ¬ c → So y P) : So (if c then x else y) P := by
  split
  · exact h1 ‹_›
  · exact h2 ‹_›
theorem so_eq {x : Option Unit} (h : So x fun _ => True) : x = some () := by
  obtain ⟨⟨⟩, h, _⟩ := h
  exact h
theorem so_assert {P : Prop} (h : P) : So (assertM P) fun _ => True := ⟨(), assertM_intro h, trivial⟩
theorem so_anyB {P : α → Prop} {e : Option Unit} {f : α → Option Unit} (o0 : α) (he : e = some ()) (h0 : P o0) (h : ∀ o, P o → So (f o) fun _ => True) : So (anyB e P f) fun _ => True := ⟨(), anyB_intro he h0 fun o ho => so_eq (h o ho), trivial⟩
theorem so_app {xs ys : List α} (h : xs.length + ys.length ≤ 4294967296) {P : List α → Prop} (hp : P (xs ++ ys)) : So (app xs ys) P := ⟨_, app_le h, hp⟩
theorem so_idx {xs : List α} {k : Int} {P : α → Prop} (h0 : 0 ≤ k) (h1 : k < (xs.length : Int)) (h : ∀ x ∈ xs, P x) : So (idx xs k) P := by
  have hl : k.toNat < xs.length := by omega
  exact ⟨_, idx_get h0 hl, h _ (List.getElem_mem hl)⟩
theorem so_range {b : Nat → α → σ → Option (Lo σ τ)} (I : Nat → σ → Prop) (xs : List α) (s : σ) (h0 : I 0 s) (h : ∀ i x s, xs[i]? = some x → I i s → So (b i x s) fun o => ∃ s', o = .cont s' ∧ I (i + 1) s') :
    So (rangeL b xs 0 s) fun j => ∃ s', j = .nx s' ∧ I xs.length s' := by
  obtain ⟨j, hj, hQ⟩ := range_inv (b := b) xs I (fun j => ∃ s', j = .nx s' ∧ I xs.length s') (fun s hs => ⟨s, rfl, hs⟩) (fun i x s hx hI => by
    obtain ⟨o, ho, s', rfl, hs'⟩ := h i x s hx hI
    exact ⟨_, ho, hs'⟩) s h0
  exact ⟨j, hj, hQ⟩
theorem so_count {b : Nat → σ → Option (Lo σ τ)} (I : Nat → σ → Prop) (n : Nat) (s : σ) (h0 : I 0 s) (h : ∀ i s, i < n → I i s → So (b i s) fun o => ∃ s', o = .cont s' ∧ I (i + 1) s') :
    So (countL b n 0 s) fun j => ∃ s', j = .nx s' ∧ I n s' := by
  obtain ⟨j, hj, hQ⟩ := count_inv (b := b) I (fun j => ∃ s', j = .nx s' ∧ I n s') n 0 (fun s hs => ⟨s, rfl, by simpa using hs⟩) (fun i s h1 h2 hI => by
    obtain ⟨o, ho, s', rfl, hs'⟩ := h i s (by omega) hI
    exact ⟨_, ho, hs'⟩) s h0
  exact ⟨j, hj, hQ⟩
theorem so_while {b : σ → Option (Lo σ τ)} (I : Nat → σ → Prop) (Q : σ → Prop) (n : Nat) (s : σ) (fu : Nat) (hf : n < fu) (h0 : I n s)
    (h : ∀ n s, I n s → So (b s) fun o => (∃ s' m, o = .cont s' ∧ m < n ∧ I m s') ∨ (∃ s', o = .brk s' ∧ Q s')) : So (whileL b fu s) fun j => ∃ s', j = .nx s' ∧ Q s' := by
  obtain ⟨j, hj, hQ⟩ := while_inv (b := b) I (fun j => ∃ s', j = .nx s' ∧ Q s') (fun n s hI => by
    obtain ⟨o, ho, ⟨s', m, rfl, hm, hs'⟩ | ⟨s', rfl, hs'⟩⟩ := h n s hI
    · exact ⟨_, ho, m, hm, hs'⟩
    · exact ⟨_, ho, s', rfl, hs'⟩) fu n s h0 hf
  exact ⟨j, hj, hQ⟩
end
def PM : Int := 1000000
theorem xor_nonneg {m n : Int} (hm : 0 ≤ m) (hm2 : m ≤ 9223372036854775807) (hn : 0 ≤ n) (hn2 : n ≤ 9223372036854775807) : 0 ≤ xorI .i64 m n := by
  obtain ⟨a, rfl⟩ := Int.eq_ofNat_of_zero_le hm
  obtain ⟨b, rfl⟩ := Int.eq_ofNat_of_zero_le hn
  have hx : a ^^^ b < 2 ^ 63 := Nat.xor_lt_two_pow (by omega) (by omega)
  have h1 : (BitVec.ofInt (IntKind.bits .i64) (a : Int) ^^^ BitVec.ofInt (IntKind.bits .i64) (b : Int)).toNat = a ^^^ b := by
    show (BitVec.ofInt 64 (a : Int) ^^^ BitVec.ofInt 64 (b : Int)).toNat = a ^^^ b
    rw [BitVec.toNat_xor, BitVec.toNat_ofInt, BitVec.toNat_ofInt]
    congr 1 <;> omega
  unfold xorI
  rw [h1]
  have : i64 ((a ^^^ b : Nat) : Int) = ((a ^^^ b : Nat) : Int) := i64_id (by omega) (by omega)
  show 0 ≤ i64 ((a ^^^ b : Nat) : Int)
  rw [this]
  omega
theorem pick_ok (r : Rd) (n : Int) (hb : r.b.length ≤ 2000) (h0 : 0 ≤ r.p) (h1 : r.p ≤ PM) : So (s_l17Rd_pick r n) fun o => o.2 = r.p + 1 ∧ 0 ≤ o.1 ∧ (1 ≤ n → o.1 < n) := by
  unfold PM at h1
  unfold s_l17Rd_pick
  have e1 : i64 (r.p + 1) = r.p + 1 := i64_id (by omega) (by omega)
  have e2 : i64 (r.p + 1 - 1) = r.p := by rw [i64_id (by omega) (by omega)]; omega
  rw [e1, e2]
  refine so_ite (fun h => so_some ⟨rfl, Int.le_refl _, fun h => by omega⟩) fun h => ?_
  simp only [Bool.or_eq_true, decide_eq_true_eq, beq_iff_eq, not_or] at h
  have hn : n ≠ 0 := by omega
  have hl : (r.b.length : Int) ≠ 0 := h.2
  refine so_ite (fun hc => ?_) fun hc => ?_
  · have hc := of_decide_eq_true hc
    refine so_bind (so_idx h0 hc fun x _ => trivial) fun x _ => ?_
    rw [if_neg hn]
    refine so_some ⟨rfl, ?_, fun _ => ?_⟩
    · have : i64 (x.toNat : Int) = x.toNat := i64_id (by omega) (by have := x.toNat_lt; omega)
      rw [this]; exact Int.tmod_nonneg _ (by omega)
    · exact Int.tmod_lt_of_pos _ (by omega)
  · rw [if_neg hl]
    have m0 : ∀ z : Int, 0 ≤ z → 0 ≤ Int.tmod z (r.b.length : Int) ∧ Int.tmod z (r.b.length : Int) < (r.b.length : Int) := fun z hz => ⟨Int.tmod_nonneg _ hz, Int.tmod_lt_of_pos _ (by omega)⟩
    have e3 : i64 (i64 (r.p * 7) + 3) = r.p * 7 + 3 := by rw [i64_id (n := r.p * 7) (by omega) (by omega), i64_id (by omega) (by omega)]
    refine so_bind (so_some (P := fun _ => True) trivial) fun _ _ => so_bind (so_idx (m0 _ h0).1 (m0 _ h0).2 fun x _ => trivial) fun x _ => so_bind (so_some (P := fun _ => True) trivial) fun _ _ => ?_
    rw [e3]
    refine so_bind (so_idx (m0 _ (by omega)).1 (m0 _ (by omega)).2 fun x _ => trivial) fun y _ => so_bind (so_some (P := fun _ => True) trivial) fun _ _ => ?_
    rw [if_neg hn]
    refine so_bind (so_some (P := fun _ => True) trivial) fun _ _ => so_some ⟨rfl, ?_, fun _ => Int.tmod_lt_of_pos _ (by omega)⟩
    refine Int.tmod_nonneg _ ?_
    have hx := x.toNat_lt
    have hy := y.toNat_lt
    have hq : 0 ≤ Int.tdiv r.p (r.b.length : Int) := Int.tdiv_nonneg h0 (by omega)
    have hq2 : Int.tdiv r.p (r.b.length : Int) ≤ r.p := Int.tdiv_le_self _ h0
    have f1 : i64 (x.toNat : Int) = x.toNat := i64_id (by omega) (by omega)
    have f2 : i64 (y.toNat : Int) = y.toNat := i64_id (by omega) (by omega)
    have f3 : i64 ((x.toNat : Int) * 131) = x.toNat * 131 := i64_id (by omega) (by omega)
    have f4 : i64 ((y.toNat : Int) * 1117) = y.toNat * 1117 := i64_id (by omega) (by omega)
    have f5 : i64 ((x.toNat : Int) * 131 + y.toNat * 1117) = x.toNat * 131 + y.toNat * 1117 := i64_id (by omega) (by omega)
    have f6 : i64 (r.p * 29) = r.p * 29 := i64_id (by omega) (by omega)
    have f7 : i64 ((x.toNat : Int) * 131 + y.toNat * 1117 + r.p * 29) = x.toNat * 131 + y.toNat * 1117 + r.p * 29 := i64_id (by omega) (by omega)
    have f8 : i64 (Int.tdiv r.p (r.b.length : Int)) = Int.tdiv r.p (r.b.length : Int) := i64_id (by omega) (by omega)
    have f9 : i64 (Int.tdiv r.p (r.b.length : Int) * 53) = Int.tdiv r.p (r.b.length : Int) * 53 := i64_id (by omega) (by omega)
    have fa : i64 ((x.toNat : Int) * 131 + y.toNat * 1117 + r.p * 29 + Int.tdiv r.p (r.b.length : Int) * 53) = x.toNat * 131 + y.toNat * 1117 + r.p * 29 + Int.tdiv r.p (r.b.length : Int) * 53 := i64_id (by omega) (by omega)
    rw [f1, f2, f3, f4, f5, f6, f7, f8, f9, fa]
    generalize hz : (x.toNat : Int) * 131 + y.toNat * 1117 + r.p * 29 + Int.tdiv r.p (r.b.length : Int) * 53 = z
    have z0 : 0 ≤ z := by omega
    have z1 : z ≤ 1000000000000 := by omega
    have d0 : 0 ≤ Int.tdiv z 64 := Int.tdiv_nonneg z0 (by omega)
    have d1 : Int.tdiv z 64 ≤ z := Int.tdiv_le_self _ z0
    rw [i64_id (n := Int.tdiv z 64) (by omega) (by omega)]
    exact xor_nonneg z0 (by omega) d0 (by omega)
theorem num_ok (r : Rd) (xs : List Int) (hx : xs ≠ []) (hb : r.b.length ≤ 2000) (h0 : 0 ≤ r.p) (h1 : r.p ≤ PM) : So (s_l17Rd_num r xs) fun o => o.2 = r.p + 1 ∧ o.1 ∈ xs := by
  unfold s_l17Rd_num
  have hl : 1 ≤ (xs.length : Int) := by have := List.length_pos_iff.2 hx; omega
  refine so_bind (pick_ok r _ hb h0 h1) fun a ⟨ha, hb0, hb1⟩ => ?_
  refine so_bind (so_idx (P := fun x => x ∈ xs) hb0 (hb1 hl) fun x hx => hx) fun x hx => so_some ⟨ha, hx⟩
theorem open_ok (code : List UInt8) : So (s_l17Open code) fun r => r.b.length ≤ 2000 ∧ r.p = 0 := by
  unfold s_l17Open
  refine so_bind (P := fun (c : List UInt8) => c.length ≤ 2000) (so_ite (fun h => ?_) fun h => so_some ?_) fun c hc => so_some ⟨hc, rfl⟩
  · have h := of_decide_eq_true h
    have h2 : sl code 0 2000 = some (code.take 2000) := sl_pre (i := 2000) (by omega)
    rw [h2]
    exact so_some (by rw [List.length_take]; omega)
  · simp only [decide_eq_true_eq] at h; omega
theorem some_ok (r : Rd) (m : Model) (least : Int) (fu : Nat) (hf : FU ≤ fu) (hs : m.sizes.length ≤ 10) (hl : 1 ≤ least) (hl2 : least ≤ 2) (hb : r.b.length ≤ 2000) (h0 : 0 ≤ r.p) (h1 : r.p + 20 ≤ PM) :
    So (s_l6Some fu r m least) fun o => least ≤ (o.1.length : Int) ∧ o.1.length ≤ 30 ∧ r.p ≤ o.2 ∧ o.2 ≤ r.p + 11 := by
  unfold PM at h1
  unfold FU at hf
  unfold s_l6Some
  refine so_bind (so_range (fun i (s : List Int × Int) => s.1.length ≤ i ∧ s.2 = r.p + i) m.sizes _ ⟨Nat.le_refl _, by simp⟩ ?_) ?_
  · rintro i x ⟨out, p⟩ hx ⟨hI1, hI2⟩
    have hi := (List.getElem?_eq_some_iff.1 hx).1
    simp only at hI1 hI2
    unfold s_l6Some_b1
    refine so_bind (pick_ok _ _ hb (by simp only; omega) (by unfold PM; simp only; omega)) fun a ⟨ha, _, _⟩ => ?_
    refine so_bind (P := fun (o : List Int) => o.length ≤ i + 1) (so_ite (fun _ => so_bind (so_app (P := fun (o : List Int) => o.length ≤ i + 1) (by simp; omega) (by simp; omega)) fun o ho => so_some ho) fun _ => so_some (by omega)) fun o ho => ?_
    exact so_some ⟨_, rfl, ho, by simp only at ha ⊢; omega⟩
  rintro _ ⟨⟨out, p⟩, rfl, ho, hp⟩
  simp only at ho hp
  refine so_bind (so_while (fun n (s : List Int × Int) => s.1.length ≤ 10 + (10 - n) ∧ 0 ≤ s.2 ∧ s.2 + n = m.sizes.length) (fun s => s.1.length ≤ 20) m.sizes.length _ fu (by omega) ⟨by simp only; omega, by simp, by simp⟩ ?_) ?_
  · rintro n ⟨o, v⟩ ⟨hI1, hI2, hI3⟩
    simp only at hI1 hI2 hI3
    unfold s_l6Some_b2
    refine so_ite (fun h => ?_) fun h => so_some (.inr ⟨_, rfl, by simp only; omega⟩)
    simp only [Bool.and_eq_true, decide_eq_true_eq] at h
    refine so_bind (P := fun _ => True) (so_ite (fun _ => so_some trivial) fun hne => so_bind (P := fun _ => True) ?_ fun _ _ => so_some trivial) fun b _ => ?_
    · simp only [beq_iff_eq] at hne
      rw [i64_id (by omega) (by omega)]
      exact so_idx (by omega) (by omega) fun _ _ => trivial
    refine so_bind (P := fun (o2 : List Int) => o2.length ≤ o.length + 1) (so_ite (fun _ => so_bind (so_app (P := fun (o2 : List Int) => o2.length ≤ o.length + 1) (by simp; omega) (by simp)) fun o ho => so_some ho) fun _ => so_some (by omega)) fun o2 ho2 => ?_
    rw [i64_id (n := v + 1) (by omega) (by omega)]
    exact so_some (.inl ⟨_, n - 1, rfl, by omega, by simp only; omega, by simp only; omega, by simp only; omega⟩)
  rintro _ ⟨⟨o, v⟩, rfl, ho⟩
  simp only at ho
  refine so_bind (P := fun (o : List Int) => least ≤ (o.length : Int) ∧ o.length ≤ 30) (so_ite (fun _ => ?_) fun h => so_some ?_) ?_
  · have hc : cntF 0 least = some least.toNat := by rw [cntF_of (by omega) (by omega)]; congr 1; omega
    refine so_bind (P := fun k => k = least.toNat) ⟨_, hc, rfl⟩ fun k hk => ?_
    subst hk
    refine so_bind (so_count (fun i (s : List Int) => s.length = i) least.toNat _ rfl ?_) ?_
    · intro i s hi hI
      unfold s_l6Some_b3
      exact so_bind (so_app (P := fun (o : List Int) => o.length = i + 1) (by simp; omega) (by simp; omega)) fun o ho => so_some ⟨_, rfl, ho⟩
    · rintro _ ⟨s, rfl, hs'⟩
      exact so_some ⟨by omega, by omega⟩
  · simp only [Bool.or_eq_true, decide_eq_true_eq, not_or] at h
    omega
  intro o2 ⟨ho2, ho3⟩
  refine so_bind (P := fun (b : Bool × Int) => (b.1 = true → 1 < o2.length) ∧ r.p ≤ b.2 ∧ b.2 ≤ r.p + 11) (so_ite (fun h => ?_) fun _ => so_some ⟨nofun, by simp only; omega, by simp only; omega⟩) ?_
  · have h := of_decide_eq_true h
    refine so_bind (pick_ok _ _ hb (by simp only; omega) (by unfold PM; simp only; omega)) fun a ⟨ha, _, _⟩ => so_some ⟨fun _ => by omega, ?_, ?_⟩ <;> simp only at ha ⊢ <;> omega
  rintro ⟨b, q⟩ ⟨hb1, hb2, hb3⟩
  simp only at hb1 hb2 hb3
  refine so_bind (P := fun (o : List Int) => o.length = o2.length) (so_ite (fun h => ?_) fun _ => so_some rfl) ?_
  · have h := hb1 h
    refine so_bind (so_idx (P := fun _ => True) (by omega) (by omega) fun _ _ => trivial) fun x _ => ?_
    refine so_bind (so_idx (P := fun _ => True) (by omega) (by omega) fun _ _ => trivial) fun y _ => ?_
    refine so_bind (so_idx (P := fun _ => True) (by omega) (by simp; omega) fun _ _ => trivial) fun z _ => ?_
    exact so_some (by simp)
  intro o4 ho4
  exact so_some ⟨by simp only; omega, by simp only; omega, hb2, hb3⟩
theorem draw_ok (r : Rd) (m : Model) (fu : Nat) (hf : FU ≤ fu) (hs : m.sizes.length ≤ 10) (hb : r.b.length ≤ 2000) (h0 : 0 ≤ r.p) (h1 : r.p + 1000 ≤ PM) :
    So (s_l6Draw fu r m) fun o => sRule o.1 ∧ r.p ≤ o.2 ∧ o.2 ≤ r.p + 400 := by
  unfold PM at h1
  have hf' := hf
  unfold FU at hf
  unfold s_l6Draw
  refine so_bind (num_ok _ _ (by simp) hb h0 (by unfold PM; omega)) fun k ⟨hk, hkm⟩ => ?_
  refine so_bind (some_ok _ m 1 fu hf' hs (by omega) (by omega) hb (by simp only; omega) (by unfold PM; simp only; omega)) fun vs ⟨hv1, hv2, hv3, hv4⟩ => ?_
  simp only at hv3 hv4
  refine so_bind (P := fun (o : Int × List Int × List Int × Int × List (List Int)) => sInts o.2.1 ∧ sInts o.2.2.1 ∧ sIntss o.2.2.2.2 ∧ r.p ≤ o.1 ∧ o.1 ≤ r.p + 400) (so_ite (fun _ => ?_) fun _ => ?_) ?_
  · refine so_bind (so_range (fun i (s : Int × List Int) => s.1 = vs.2 + i ∧ s.2.length = i) vs.1 _ ⟨by simp, rfl⟩ ?_) ?_
    · rintro i x ⟨p, out⟩ hx ⟨hI1, hI2⟩
      have hi := (List.getElem?_eq_some_iff.1 hx).1
      simp only at hI1 hI2
      unfold s_l6Draw_b1
      refine so_bind (num_ok _ _ (by simp) hb (by simp only; omega) (by unfold PM; simp only; omega)) fun a ⟨ha, _⟩ => ?_
      simp only at ha
      exact so_bind (so_app (P := fun (o : List Int) => o.length = i + 1) (by simp; omega) (by simp; omega)) fun o ho => so_some ⟨_, rfl, by simp only; omega, ho⟩
    rintro _ ⟨⟨p, out⟩, rfl, hp, ho⟩
    simp only at hp ho
    refine so_bind (num_ok _ _ (by simp) hb (by simp only; omega) (by unfold PM; simp only; omega)) fun a ⟨ha, _⟩ => so_some ⟨?_, ?_, ⟨by simp, by simp⟩, ?_, ?_⟩ <;> simp only at ha ⊢ <;> (try unfold sInts) <;> omega
  · refine so_bind (P := fun (o : Int × List Int × List (List Int)) => sInts o.2.1 ∧ sIntss o.2.2 ∧ r.p ≤ o.1 ∧ o.1 ≤ r.p + 400) (so_ite (fun _ => ?_) fun _ => ?_) fun o ⟨h1, h2, h3, h4⟩ => so_some ⟨h1, by simp [sInts], h2, h3, h4⟩
    · refine so_bind (num_ok _ _ (by simp) hb (by simp only; omega) (by unfold PM; simp only; omega)) fun a ⟨ha, ham⟩ => ?_
      simp only at ha
      have hab : 0 ≤ a.1 ∧ a.1 ≤ 8 := by simp at ham; omega
      refine so_bind (so_while (fun n (s : Int × Int × List (List Int)) => n ≤ 8 ∧ s.1 = n ∧ r.p ≤ s.2.1 ∧ s.2.1 ≤ r.p + 13 + 30 * (8 - n) ∧ s.2.2.length ≤ 8 - n ∧ ∀ x ∈ s.2.2, sInts x) (fun s => r.p ≤ s.2.1 ∧ s.2.1 ≤ r.p + 300 ∧ s.2.2.length ≤ 8 ∧ ∀ x ∈ s.2.2, sInts x) a.1.toNat _ fu (by omega) ⟨by omega, by simp only; omega, by simp only; omega, by simp only; omega, by simp, by simp⟩ ?_) ?_
      · rintro n ⟨i, p, rows⟩ ⟨hn, hI1, hI2, hI3, hI4, hI5⟩
        simp only at hI1 hI2 hI3 hI4 hI5
        unfold s_l6Draw_b2
        refine so_ite (fun hc => ?_) fun _ => so_some (.inr ⟨_, rfl, by simp only; omega, by simp only; omega, by simp only; omega, hI5⟩)
        have hc := of_decide_eq_true hc
        refine so_bind (so_range (fun q (s : List Int × Int) => s.2 = p + q ∧ s.1.length = q) vs.1 _ ⟨by simp, rfl⟩ ?_) ?_
        · rintro q x ⟨out, p2⟩ hx ⟨hJ1, hJ2⟩
          have hi := (List.getElem?_eq_some_iff.1 hx).1
          simp only at hJ1 hJ2
          unfold s_l6Draw_b3
          refine so_bind (pick_ok _ _ hb (by simp only; omega) (by unfold PM; simp only; omega)) fun a ⟨ha, _, _⟩ => ?_
          simp only at ha
          exact so_bind (so_app (P := fun (o : List Int) => o.length = q + 1) (by simp; omega) (by simp; omega)) fun o ho => so_some ⟨_, rfl, by simp only; omega, ho⟩
        rintro _ ⟨⟨row, p2⟩, rfl, hp2, hrow⟩
        simp only at hp2 hrow
        refine so_bind (so_app (P := fun (o : List (List Int)) => o.length ≤ 8 - n + 1 ∧ ∀ x ∈ o, sInts x) (by simp; omega) ⟨by simp; omega, fun x hx => ?_⟩) fun o ⟨ho1, ho2⟩ => ?_
        · rcases List.mem_append.1 hx with h | h
          · exact hI5 x h
          · simp at h; subst h; unfold sInts; omega
        rw [i64_id (by omega) (by omega)]
        exact so_some (.inl ⟨_, n - 1, rfl, by omega, by omega, by simp only; omega, by simp only; omega, by simp only; omega, by simp only; omega, ho2⟩)
      rintro _ ⟨⟨i, p, rows⟩, rfl, h1, h2, h3, h4⟩
      simp only at h1 h2 h3 h4
      exact so_some ⟨by simp only [sInts]; omega, ⟨by simp only; omega, h4⟩, h1, by simp only; omega⟩
    · refine so_bind (P := fun (o : Int × List Int) => sInts o.2 ∧ r.p ≤ o.1 ∧ o.1 ≤ r.p + 400) (so_ite (fun _ => ?_) fun _ => so_some ⟨by simp only [sInts]; omega, by simp only; omega, by simp only; omega⟩) fun o ⟨h1, h2, h3⟩ => so_some ⟨h1, ⟨by simp, by simp⟩, h2, h3⟩
      refine so_bind (some_ok _ m 2 fu hf' hs (by omega) (by omega) hb (by simp only; omega) (by unfold PM; simp only; omega)) fun vs2 ⟨hw1, hw2, hw3, hw4⟩ => ?_
      simp only at hw3 hw4
      have h2 : sl vs2.1 0 2 = some (vs2.1.take 2) := sl_pre (i := 2) (by omega)
      rw [h2]
      exact so_some ⟨by simp only [sInts, List.length_take]; omega, by simp only; omega, by simp only; omega⟩
  · rintro ⟨p, a, b, c, d⟩ ⟨h1, h2, h3, h4, h5⟩
    exact so_some ⟨⟨h1, h2, h3⟩, h4, h5⟩
theorem model_ok (r : Rd) (fu : Nat) (hf : FU ≤ fu) (hb : r.b.length ≤ 2000) (h0 : 0 ≤ r.p) (h1 : r.p + 10000 ≤ PM) : So (s_l6Model fu r) fun o => sModel o.1 ∧ o.1.sizes.length ≤ 4 ∧ o.1.rules.length ≤ 4 ∧ r.p ≤ o.2 ∧ o.2 ≤ r.p + 3000 := by
  unfold PM at h1
  have hf' := hf
  unfold FU at hf
  unfold s_l6Model
  refine so_bind (num_ok _ _ (by simp) hb h0 (by unfold PM; omega)) fun k ⟨hk, hkm⟩ => ?_
  have hkb : 2 ≤ k.1 ∧ k.1 ≤ 4 := by simp at hkm; omega
  refine so_bind (so_while (fun n (s : Int × Int × List Int) => n ≤ 4 ∧ s.1 = n ∧ r.p ≤ s.2.1 ∧ s.2.1 ≤ r.p + 1 + (4 - n) ∧ s.2.2.length + n = k.1.toNat ∧ ∀ x ∈ s.2.2, 0 ≤ x ∧ x ≤ 3) (fun s => r.p ≤ s.2.1 ∧ s.2.1 ≤ r.p + 10 ∧ s.2.2.length = k.1.toNat ∧ ∀ x ∈ s.2.2, 0 ≤ x ∧ x ≤ 3) k.1.toNat _ fu (by omega) ⟨by omega, by simp only; omega, by simp only; omega, by simp only; omega, by simp, by simp⟩ ?_) ?_
  · rintro n ⟨i, p, out⟩ ⟨hn, hI1, hI2, hI3, hI4, hI5⟩
    simp only at hI1 hI2 hI3 hI4 hI5
    unfold s_l6Model_b1
    refine so_ite (fun hc => ?_) fun hc => so_some (.inr ⟨_, rfl, by simp only; omega, by simp only; omega, by simp only [decide_eq_true_eq] at hc; simp only; omega, hI5⟩)
    have hc := of_decide_eq_true hc
    refine so_bind (num_ok _ _ (by simp) hb (by simp only; omega) (by unfold PM; simp only; omega)) fun a ⟨ha, ham⟩ => ?_
    simp only at ha
    refine so_bind (so_app (P := fun (o : List Int) => o.length + (n - 1) = k.1.toNat ∧ ∀ x ∈ o, 0 ≤ x ∧ x ≤ 3) (by simp; omega) ⟨by simp; omega, fun x hx => ?_⟩) fun o ⟨ho1, ho2⟩ => ?_
    · rcases List.mem_append.1 hx with h | h
      · exact hI5 x h
      · simp at h; subst h; simp at ham; omega
    rw [i64_id (by omega) (by omega)]
    exact so_some (.inl ⟨_, n - 1, rfl, by omega, by omega, by simp only; omega, by simp only; omega, by simp only; omega, by simp only; omega, ho2⟩)
  rintro _ ⟨⟨i, p, out⟩, rfl, hp1, hp2, ho1, ho2⟩
  simp only at hp1 hp2 ho1 ho2
  refine so_bind (so_while (fun n (s : Int × List Int) => (s.1 = 0 → n = s.2.length + 1) ∧ 1 ≤ s.2.length ∧ s.2.length ≤ 4 ∧ ∀ x ∈ s.2, 0 ≤ x ∧ x ≤ 3) (fun s => s.2.length ≤ 4) (out.length + 1) _ fu (by omega) ⟨fun _ => rfl, by simp only; omega, by simp only; omega, ho2⟩ ?_) ?_
  · rintro n ⟨c, out⟩ ⟨hI1, hI0, hI2, hI3⟩
    simp only at hI0 hI1 hI2 hI3
    unfold s_l6Model_b2
    refine so_ite (fun hc => ?_) fun _ => so_some (.inr ⟨_, rfl, hI2⟩)
    have hc : c = 0 := by simpa using hc
    have hn := hI1 hc
    subst hc
    refine so_bind (so_range (fun q (s : Int) => (q : Int) ≤ s ∧ s ≤ 4 * q) out _ ⟨by simp, by simp⟩ ?_) ?_
    · intro q x s hx ⟨hJ1, hJ2⟩
      have hi := (List.getElem?_eq_some_iff.1 hx).1
      have hxm := hI3 x (List.mem_of_getElem? hx)
      show So (some (Lo.cont (i64 (i64 (s + x) + 1)))) _
      rw [i64_id (n := s + x) (by omega) (by omega), i64_id (by omega) (by omega)]
      exact so_some ⟨_, rfl, by omega, by omega⟩
    rintro _ ⟨s, rfl, hs1, hs2⟩
    refine so_bind (P := fun (o : Int × List Int) => (o.1 = 0 → o.2.length + 1 ≤ out.length) ∧ 1 ≤ o.2.length ∧ o.2.length ≤ 4 ∧ ∀ x ∈ o.2, 0 ≤ x ∧ x ≤ 3) (so_ite (fun hc => ?_) fun hc => so_some ⟨fun h => ?_, hI0, hI2, hI3⟩) ?_
    · have hc := of_decide_eq_true hc
      have h2 : sl out 0 (i64 ((out.length : Int) - 1)) = some (out.take (out.length - 1)) := by
        rw [i64_id (by omega) (by omega)]
        have := sl_pre (xs := out) (i := out.length - 1) (by omega)
        rwa [show ((out.length - 1 : Nat) : Int) = (out.length : Int) - 1 from by omega] at this
      rw [h2]
      exact so_some ⟨fun _ => by simp only [List.length_take]; omega, by simp only [List.length_take]; omega, by simp only [List.length_take]; omega, fun x hx => hI3 x (List.mem_of_mem_take hx)⟩
    · simp only at h; omega
    · rintro ⟨c2, o2⟩ ⟨h1, h2, h3, h4⟩
      simp only at h1 h2 h3 h4
      by_cases hz : c2 = 0
      · exact so_some (.inl ⟨_, o2.length + 1, rfl, by have := h1 hz; omega, fun _ => rfl, h2, h3, h4⟩)
      · exact so_some (.inl ⟨_, 0, rfl, by omega, fun h => absurd h hz, h2, h3, h4⟩)
  rintro _ ⟨⟨c, sz⟩, rfl, hsz⟩
  simp only at hsz
  refine so_bind (num_ok _ _ (by simp) hb (by simp only; omega) (by unfold PM; simp only; omega)) fun q ⟨hq, hqm⟩ => ?_
  simp only at hq
  have hqb : 0 ≤ q.1 ∧ q.1 ≤ 4 := by simp at hqm; omega
  refine so_bind (so_while (fun n (s : Int × Int × List Rule) => n ≤ 4 ∧ s.1 = n ∧ r.p ≤ s.2.1 ∧ s.2.1 ≤ r.p + 11 + 400 * (4 - n) ∧ s.2.2.length + n = q.1.toNat ∧ ∀ x ∈ s.2.2, sRule x) (fun s => r.p ≤ s.2.1 ∧ s.2.1 ≤ r.p + 3000 ∧ s.2.2.length ≤ 4 ∧ ∀ x ∈ s.2.2, sRule x) q.1.toNat _ fu (by omega) ⟨by omega, by simp only; omega, by simp only; omega, by simp only; omega, by simp, by simp⟩ ?_) ?_
  · rintro n ⟨i, p, out⟩ ⟨hn, hI1, hI2, hI3, hI4, hI5⟩
    simp only at hI1 hI2 hI3 hI4 hI5
    unfold s_l6Model_b4
    refine so_ite (fun hc => ?_) fun hc => so_some (.inr ⟨_, rfl, by simp only; omega, by simp only; omega, by simp only [decide_eq_true_eq] at hc; simp only; omega, hI5⟩)
    have hc := of_decide_eq_true hc
    refine so_bind (draw_ok _ _ fu hf' (by simp only; omega) hb (by simp only; omega) (by unfold PM; simp only; omega)) fun a ⟨ha, ha1, ha2⟩ => ?_
    simp only at ha1 ha2
    refine so_bind (so_app (P := fun (o : List Rule) => o.length + (n - 1) = q.1.toNat ∧ ∀ x ∈ o, sRule x) (by simp; omega) ⟨by simp; omega, fun x hx => ?_⟩) fun o ⟨ho1, ho2⟩ => ?_
    · rcases List.mem_append.1 hx with h | h
      · exact hI5 x h
      · simp at h; subst h; exact ha
    rw [i64_id (by omega) (by omega)]
    exact so_some (.inl ⟨_, n - 1, rfl, by omega, by omega, by simp only; omega, by simp only; omega, by simp only; omega, by simp only; omega, ho2⟩)
  rintro _ ⟨⟨i, p, rules⟩, rfl, h1, h2, h3, h4⟩
  simp only at h1 h2 h3 h4
  exact so_some ⟨⟨by simp only [sInts]; omega, by simp only; omega, h4⟩, hsz, h3, h1, h2⟩
theorem copy_ok (m : Model) (h : sModel m) : s_l6Copy m = some m := by
  have hz : ∀ xs : List Int, sInts xs → app [] xs = some xs := fun xs hx => by unfold sInts at hx; rw [app_le (by simp; omega)]; rfl
  obtain ⟨h1, h2, h3⟩ := h
  unfold s_l6Copy
  rw [hz _ h1, Option.bind_some]
  rw [range_map (fun x => x) m.rules ?_]
  · simp
  intro i x out hx hi
  obtain ⟨k1, k2, k3, k4⟩ := h3 x (List.mem_of_getElem? hx)
  have hl := (List.getElem?_eq_some_iff.1 hx).1
  show (app [] x.vars).bind _ = _
  rw [hz _ k1, Option.bind_some, hz _ k2, Option.bind_some]
  rw [range_map (fun x => x) x.rows ?_]
  · rw [Option.bind_some]
    simp only [List.map_id']
    rw [app_le (by simp; omega)]
    rfl
  intro j y out2 hy hj
  have hl2 := (List.getElem?_eq_some_iff.1 hy).1
  show (app [] y).bind _ = _
  rw [hz _ (k4 y (List.mem_of_getElem? hy)), Option.bind_some, app_le (by simp; omega)]
  rfl
theorem mutate_ok (r : Rd) (m : Model) (fu : Nat) (hf : FU ≤ fu) (hm : sModel m) (hb : r.b.length ≤ 2000) (h0 : 0 ≤ r.p) (h1 : r.p + 1000 ≤ PM) : s_l6Mutate fu r m = some () := by
  unfold PM at h1
  unfold FU at hf
  refine so_eq ?_
  unfold s_l6Mutate
  rw [copy_ok m hm]
  have hm0 := hm
  obtain ⟨hm1, hm2, hm3⟩ := hm
  have hset : ∀ (y : Rule), sRule y → sRules (m.rules.set (Int.toNat 0) y) := fun y hy => ⟨by rw [List.length_set]; exact hm2, fun x hx => by
    rcases List.mem_or_eq_of_mem_set hx with h | h
    · exact hm3 x h
    · subst h; exact hy⟩
  refine so_bind (P := fun x => x = m) (so_some rfl) fun x hx => ?_
  subst hx
  refine so_bind (pick_ok _ _ hb h0 (by unfold PM; omega)) fun k ⟨hk, hk0, hk1⟩ => ?_
  have hend : ∀ p : Int, p ≤ r.p + 3 → r.p ≤ p → So (assertM (sModel x ∧ rdOk r.p p)) fun _ => True := fun p h1 h2 => so_assert ⟨hm0, h2, by omega⟩
  refine so_ite (fun _ => so_ite (fun hl => ?_) fun _ => hend _ (by omega) (by omega)) fun _ => ?_
  · have hl := of_decide_eq_true hl
    refine so_bind (num_ok _ _ (by simp) hb (by simp only; omega) (by unfold PM; simp only; omega)) fun a ⟨ha, ham⟩ => ?_
    simp only at ha
    refine so_bind (so_idx (P := fun _ => True) (by omega) (by omega) fun _ _ => trivial) fun z _ => ?_
    exact so_assert ⟨⟨by unfold sInts at hm1 ⊢; rw [List.length_set]; exact hm1, hm2, hm3⟩, by unfold rdOk; omega⟩
  refine so_ite (fun _ => ?_) fun _ => so_ite (fun _ => so_ite (fun hl => ?_) fun _ => hend _ (by omega) (by omega)) fun _ => so_ite (fun _ => ?_) fun _ => so_ite (fun _ => so_ite (fun hl => ?_) fun _ => hend _ (by omega) (by omega)) fun _ => so_ite (fun _ => ?_) fun _ => hend _ (by omega) (by omega)
  · refine so_bind (so_while (fun n (s : List Int) => s.length ≤ 1000 ∧ n + s.length = 1000) (fun s => s.length ≤ 1000) (1000 - x.sizes.length) _ fu (by omega) ⟨hm1, by unfold sInts at hm1; omega⟩ ?_) ?_
    · intro n s ⟨hI1, hI2⟩
      unfold s_l6Mutate_b1
      refine so_ite (fun hc => ?_) fun _ => so_some (.inr ⟨_, rfl, hI1⟩)
      have hc := of_decide_eq_true hc
      refine so_bind (so_app (P := fun (o : List Int) => o.length = s.length + 1) (by simp; omega) (by simp)) fun o ho => so_some (.inl ⟨_, n - 1, rfl, by omega, by omega, by omega⟩)
    · rintro _ ⟨s, rfl, hs⟩
      exact so_assert ⟨⟨hs, hm2, hm3⟩, by unfold rdOk; omega⟩
  · have hl := of_decide_eq_true hl
    refine so_bind (num_ok _ _ (by simp) hb (by simp only; omega) (by unfold PM; simp only; omega)) fun a ⟨ha, ham⟩ => ?_
    simp only at ha
    refine so_bind (so_idx (P := fun z => sRule z) (by omega) (by omega) fun z hz => hm3 z hz) fun z hz => ?_
    exact so_assert ⟨⟨hm1, hset _ ⟨hz.1, hz.2.1, hz.2.2⟩⟩, by unfold rdOk; omega⟩
  · refine so_bind (P := fun b => b = true → ∃ z, idx x.rules (i64 ((x.rules.length : Int) - 1)) = some z ∧ 0 < z.vars.length) (so_ite (fun hl => ?_) fun _ => so_some nofun) fun b hbb => so_ite (fun hl => ?_) fun _ => hend _ (by omega) (by omega)
    · have hl := of_decide_eq_true hl
      obtain ⟨z, hz, _⟩ : So (idx x.rules (i64 ((x.rules.length : Int) - 1))) fun _ => True := by
        rw [i64_id (by omega) (by omega)]
        exact so_idx (by omega) (by omega) fun _ _ => trivial
      rw [hz]
      refine so_some fun h => ⟨z, rfl, ?_⟩
      have := of_decide_eq_true h
      omega
    · obtain ⟨z, hz, hzl⟩ := hbb hl
      rw [hz]
      refine so_bind (so_some (P := fun y => y = z) rfl) fun y hy => ?_
      subst hy
      refine so_bind (num_ok _ _ (by simp) hb (by simp only; omega) (by unfold PM; simp only; omega)) fun a ⟨ha, ham⟩ => ?_
      simp only at ha
      refine so_bind (so_idx (P := fun _ => True) (by omega) (by omega) fun _ _ => trivial) fun z' _ => ?_
      have hzm := hm3 y (List.mem_of_getElem? (idx_some hz).2.1)
      refine so_assert ⟨⟨hm1, by rw [List.length_set]; exact hm2, fun q hq => ?_⟩, by unfold rdOk; omega⟩
      rcases List.mem_or_eq_of_mem_set hq with h | h
      · exact hm3 q h
      · subst h; exact ⟨by have := hzm.1; unfold sInts at this ⊢; rw [List.length_set]; exact this, hzm.2⟩
  · have hl := of_decide_eq_true hl
    refine so_bind (num_ok _ _ (by simp) hb (by simp only; omega) (by unfold PM; simp only; omega)) fun a ⟨ha, ham⟩ => ?_
    simp only at ha
    refine so_bind (so_idx (P := fun z => sRule z) (by omega) (by omega) fun z hz => hm3 z hz) fun z hz => ?_
    exact so_assert ⟨⟨hm1, hset _ ⟨hz.1, hz.2.1, hz.2.2⟩⟩, by unfold rdOk; omega⟩
  · exact so_assert ⟨⟨by simp [sInts], by simp, by simp⟩, by unfold rdOk; omega⟩
theorem s0 : sModel ⟨[], []⟩ := ⟨by simp [sInts], by simp, by simp⟩
theorem drawValid_ok (code : List UInt8) (fu : Nat) (hf : FU ≤ fu) : s_DrawModelValid fu code = some () := by
  refine so_eq ?_
  unfold s_DrawModelValid
  refine so_bind (open_ok code) fun r ⟨hb, hp⟩ => ?_
  refine so_bind (model_ok r fu hf hb (by omega) (by unfold PM; omega)) fun m ⟨hm, _, _, hp1, hp2⟩ => ?_
  exact so_anyB (m.1, m.2) (mutate_ok _ _ fu hf hm hb (by simp only; omega) (by unfold PM; simp only; omega)) ⟨hm, by unfold rdOk; simp only; omega⟩ fun o ⟨ho, hr1, hr2⟩ => so_assert ho
end Go.L
namespace Go.L
open Go Go.E
set_option linter.unusedVariables false
theorem idx_self {α : Type} {xs : List α} {i : Nat} {x : α} (h : xs[i]? = some x) : idx xs (i : Int) = some x := by rw [idx_nat, h]
def smallR (r : Rule) : Prop := r.vars.length ≤ 1048576 ∧ r.coefs.length ≤ 1048576 ∧ r.rows.length ≤ 1048576 ∧ ∀ x ∈ r.rows, x.length ≤ 1048576
def smallM (m : Model) : Prop := m.sizes.length ≤ 1048576 ∧ m.rules.length ≤ 1048576 ∧ ∀ r ∈ m.rules, smallR r
end Go.L
namespace Go.L
open Go Go.E
set_option linter.unusedVariables false
theorem within_eq (n lo hi : Int) : i_within n lo hi = some (decide (lo ≤ n) && decide (n ≤ hi)) := rfl
theorem containsInt (s : List Int) (v : Int) : slices_Contains_int s v = some (s.contains v) := by
  obtain ⟨j, h1, h2⟩ := range_index (q := fun x => v == x) (b := slices_Index_int_b1 v) s (fun i x _ => by show (if _ then _ else _) = _; cases v == x <;> rfl)
  unfold slices_Contains_int slices_Index_int
  rw [h1]
  have hc : s.contains v = s.any (fun x => v == x) := by
    rw [Bool.eq_iff_iff]; simp
  rw [hc]
  cases j with
  | nx u => simp only at h2; rw [h2]; rfl
  | out t => simp only at h2; rw [h2.2]; simp [h2.1]
theorem containsFuncInt (s : List Int) (p : Int → Option Bool) (q : Int → Bool) (hp : ∀ x ∈ s, p x = some (q x)) : slices_ContainsFunc_int s p = some (s.any q) := by
  obtain ⟨j, h1, h2⟩ := range_index (q := q) (b := slices_IndexFunc_int_b1 p) s (fun i x hx => by show (p x).bind _ = _; rw [hp x (List.mem_of_getElem? hx)]; show (if _ then _ else _) = _; cases q x <;> rfl)
  unfold slices_ContainsFunc_int slices_IndexFunc_int
  rw [h1]
  cases j with
  | nx u => simp only at h2; rw [h2]; rfl
  | out t => simp only at h2; rw [h2.2]; simp [h2.1]
theorem containsFuncSint (s : List (List Int)) (p : List Int → Option Bool) (q : List Int → Bool) (hp : ∀ x ∈ s, p x = some (q x)) : slices_ContainsFunc_Sint s p = some (s.any q) := by
  obtain ⟨j, h1, h2⟩ := range_index (q := q) (b := slices_IndexFunc_Sint_b1 p) s (fun i x hx => by show (p x).bind _ = _; rw [hp x (List.mem_of_getElem? hx)]; show (if _ then _ else _) = _; cases q x <;> rfl)
  unfold slices_ContainsFunc_Sint slices_IndexFunc_Sint
  rw [h1]
  cases j with
  | nx u => simp only at h2; rw [h2]; rfl
  | out t => simp only at h2; rw [h2.2]; simp [h2.1]
theorem containsFuncRule (s : List Rule) (p : Rule → Option Bool) (q : Rule → Bool) (hp : ∀ x ∈ s, p x = some (q x)) : slices_ContainsFunc_implRule s p = some (s.any q) := by
  obtain ⟨j, h1, h2⟩ := range_index (q := q) (b := slices_IndexFunc_implRule_b1 p) s (fun i x hx => by show (p x).bind _ = _; rw [hp x (List.mem_of_getElem? hx)]; show (if _ then _ else _) = _; cases q x <;> rfl)
  unfold slices_ContainsFunc_implRule slices_IndexFunc_implRule
  rw [h1]
  cases j with
  | nx u => simp only at h2; rw [h2]; rfl
  | out t => simp only at h2; rw [h2.2]; simp [h2.1]
def gqVars (n : Nat) (xs : List Int) : Nat → Int → Bool := fun i x => decide (0 ≤ x) && decide (x < (n : Int)) && !(xs.take i).contains x
def okVars (n : Nat) (xs : List Int) : Bool := allFrom (gqVars n xs) xs 0
theorem notin_all (xs : List Int) (v : Int) : (!xs.contains v) = xs.all (fun y => !(y == v)) := by
  rw [Bool.eq_iff_iff]
  simp only [Bool.not_eq_true', List.all_eq_true, beq_eq_false_iff_ne, ne_eq]
  constructor
  · intro h y hy e; subst e; simp [hy] at h
  · intro h; simp; intro hv; exact h v hv rfl
theorem count_notin {τ : Type} (xs : List Int) (v : Int) (t : τ) (i : Nat) (hi : i ≤ xs.length) {b : Nat → Unit → Option (Lo Unit τ)}
    (hb : ∀ k, k < i → b k () = (idx xs (k : Int)).bind fun x => if (x == v) then (some (.out t)) else (some (.cont ()))) :
    countL b i 0 () = some (if !(xs.take i).contains v then .nx () else .out t) := by
  obtain ⟨j, hj, hQ⟩ := count_inv (b := b) (fun k _ => (xs.take k).all (fun y => !(y == v)) = true) (fun j => j = if (xs.take i).all (fun y => !(y == v)) then .nx () else .out t) i 0
    (by intro s h; rw [Nat.zero_add] at h; rw [h]; rfl)
    (by
      intro k s _ hk hI
      have hk' : k < xs.length := by omega
      rw [hb k (by omega), idx_lt hk', Option.bind_some]
      cases hx : xs[k] == v with
      | true =>
        refine ⟨.out t, rfl, ?_⟩
        have : (xs.take i).all (fun y => !(y == v)) = false := by
          rw [List.all_eq_false]
          exact ⟨xs[k], List.mem_iff_getElem.2 ⟨k, by simp; omega, by simp⟩, by simpa using hx⟩
        rw [this]; rfl
      | false =>
        refine ⟨.cont (), rfl, ?_⟩
        rw [List.take_add_one, List.getElem?_eq_getElem hk', List.all_append, hI]
        simp [hx]) () rfl
  rw [hj, hQ, notin_all]
theorem s_vars (m : Model) (xs : List Int) (hx : xs.length ≤ 1048576) : s_l6Vars m xs = some (okVars m.sizes.length xs && decide ((xs.length : Int) ≥ 1)) := by
  unfold s_l6Vars
  rw [range_allI (gqVars m.sizes.length xs) false xs]
  · unfold okVars
    cases allFrom (gqVars m.sizes.length xs) xs 0 <;> rfl
  · intro i x hix
    have hi := (List.getElem?_eq_some_iff.1 hix).1
    show (if _ then _ else _) = _
    rw [cntF_nat (by omega), Option.bind_some, count_notin xs x (.out false) i (by omega) fun k hk => rfl]
    unfold gqVars
    have e1 : decide (x < 0) = !decide (0 ≤ x) := by rw [← decide_not, decide_eq_decide]; omega
    have e2 : decide (x ≥ (m.sizes.length : Int)) = !decide (x < (m.sizes.length : Int)) := by rw [← decide_not, decide_eq_decide]; omega
    rw [e1, e2]
    cases decide (0 ≤ x) <;> cases decide (x < (m.sizes.length : Int)) <;> cases (xs.take i).contains x <;> rfl
theorem i_vars (r : Rule) (n : Nat) (hn : n ≤ ML) : rangeL (i_ruleValid_b1 r (n : Int)) r.vars 0 () = some (if okVars n r.vars then .nx () else .out false) := by
  refine range_allI (gqVars n r.vars) false r.vars ?_
  intro i x hxi
  have hi : i < r.vars.length := (List.getElem?_eq_some_iff.1 hxi).1
  show ((i_within x 0 (i64 ((n : Int) - 1))).bind _ : Option (Lo Unit Bool)) = _
  have hn' : (n : Int) ≤ 9223372036854775807 := by unfold ML at hn; omega
  rw [i64_id (by omega) (by omega), within_eq, Option.bind_some, sl_pre (by omega), Option.bind_some, containsInt]
  unfold gqVars
  have e : decide (x ≤ (n : Int) - 1) = decide (x < (n : Int)) := by rw [decide_eq_decide]; omega
  rw [e]
  cases decide (0 ≤ x) <;> cases decide (x < (n : Int)) <;> cases (r.vars.take i).contains x <;> rfl
def qCoef (x : Int) : Bool := decide (-9 ≤ x) && decide (x ≤ 9) && !(x == 0)
theorem s_linear (r : Rule) : s_l6Linear r = some (r.coefs.all qCoef && ((((r.coefs.length : Int) == (r.vars.length : Int)) && decide (r.bound ≥ -1000)) && decide (r.bound ≤ 1000))) := by
  unfold s_l6Linear
  rw [range_all qCoef false r.coefs]
  · cases r.coefs.all qCoef <;> rfl
  · intro i x hix
    show (if _ then _ else _) = _
    unfold qCoef
    have e1 : decide (x < -9) = !decide (-9 ≤ x) := by rw [← decide_not, decide_eq_decide]; omega
    have e2 : decide (x > 9) = !decide (x ≤ 9) := by rw [← decide_not, decide_eq_decide]; omega
    rw [e1, e2]
    cases decide (-9 ≤ x) <;> cases decide (x ≤ 9) <;> cases x == 0 <;> rfl
def qRow (n : Nat) (row : List Int) : Bool := ((row.length : Int) == (n : Int)) && row.all (fun x => decide (0 ≤ x) && decide (x ≤ 3))
theorem count_all {τ α : Type} (q : α → Bool) (xs : List α) (t : τ) {b : Nat → Unit → Option (Lo Unit τ)}
    (hb : ∀ k x, xs[k]? = some x → b k () = some (if q x then .cont () else .out t)) : countL b xs.length 0 () = some (if xs.all q then .nx () else .out t) := by
  rw [count_range b xs.length 0 0]
  have h1 : ∀ (ys : List α) (k j : Nat), xs.drop k = ys → rangeL (fun _ k s => b k s) (List.range' k ys.length) j () = rangeL (fun k _ s => b k s) ys k () := by
    intro ys
    induction ys with
    | nil => intro k j _; rfl
    | cons y ys ih =>
      intro k j hd
      show rangeL _ (List.range' k (ys.length + 1)) j () = _
      rw [List.range'_succ]
      show (b k ()).bind _ = (b k ()).bind _
      congr 1
      funext o
      cases o with
      | cont s => exact ih (k + 1) (j + 1) (drop_next hd)
      | brk s => rfl
      | out t => rfl
  rw [h1 xs 0 0 rfl, range_all q t xs hb]
theorem s_table (r : Rule) (hel : ∀ x ∈ r.rows, x.length ≤ 1048576) : s_l6Table r = some (r.rows.all (qRow r.vars.length) && decide ((r.rows.length : Int) ≤ 8)) := by
  unfold s_l6Table
  rw [range_all (qRow r.vars.length) false r.rows]
  · cases r.rows.all (qRow r.vars.length) <;> rfl
  · intro i row hix
    have hl := hel row (List.mem_of_getElem? hix)
    show (if _ then _ else _) = _
    rw [cntF_nat (by omega), Option.bind_some, count_all (fun x => decide (0 ≤ x) && decide (x ≤ 3)) row (.out false)]
    · unfold qRow bne
      cases (row.length : Int) == (r.vars.length : Int) <;> cases row.all (fun x => decide (0 ≤ x) && decide (x ≤ 3)) <;> rfl
    · intro k x hx
      show (idx row (k : Int)).bind _ = _
      rw [idx_self hx, Option.bind_some]
      have e1 : decide (x < 0) = !decide (0 ≤ x) := by rw [← decide_not, decide_eq_decide]; omega
      have e2 : decide (x > 3) = !decide (x ≤ 3) := by rw [← decide_not, decide_eq_decide]; omega
      rw [e1, e2]
      cases decide (0 ≤ x) <;> cases decide (x ≤ 3) <;> rfl
def okRule (n : Nat) (r : Rule) : Bool :=
  if ((!(okVars n r.vars && decide ((r.vars.length : Int) ≥ 1))) || ((r.kind != 1) && (((r.coefs.length : Int) != 0) || (r.bound != 0)))) || ((r.kind != 3) && ((r.rows.length : Int) != 0)) then false
  else if r.kind == 1 then r.coefs.all qCoef && ((((r.coefs.length : Int) == (r.vars.length : Int)) && decide (r.bound ≥ -1000)) && decide (r.bound ≤ 1000))
  else if r.kind == 2 then true
  else if r.kind == 3 then r.rows.all (qRow r.vars.length) && decide ((r.rows.length : Int) ≤ 8)
  else if r.kind == 4 then ((r.vars.length : Int) == 2) else false
theorem s_rule (m : Model) (r : Rule) (h : smallR r) : s_l6Rule m r = some (okRule m.sizes.length r) := by
  unfold s_l6Rule okRule
  rw [s_vars m r.vars h.1, Option.bind_some, s_linear r, s_table r h.2.2.2]
  simp only [Option.bind_some, apply_ite some]
theorem i_coefs (xs : List Int) : slices_ContainsFunc_int xs i_ruleValid_1 = some (!xs.all qCoef) := by
  rw [← any_not_all]
  refine containsFuncInt xs _ (fun x => !qCoef x) fun x _ => ?_
  unfold i_ruleValid_1 qCoef
  rw [within_eq]
  cases hx : x == 0 <;> cases h1 : decide (-9 ≤ x) <;> cases h2 : decide (x ≤ 9) <;> simp_all
theorem i_rows (r : Rule) : slices_ContainsFunc_Sint r.rows (i_ruleValid_2 r) = some (!r.rows.all (qRow r.vars.length)) := by
  rw [← any_not_all]
  refine containsFuncSint r.rows _ (fun x => !qRow r.vars.length x) fun row _ => ?_
  unfold i_ruleValid_2 qRow
  have e : slices_ContainsFunc_int row i_ruleValid_2_1 = some (!row.all (fun x => decide (0 ≤ x) && decide (x ≤ 3))) := by
    rw [← any_not_all]
    exact containsFuncInt row _ _ fun x _ => rfl
  rw [e]
  unfold bne
  cases (row.length : Int) == (r.vars.length : Int) <;> cases row.all (fun x => decide (0 ≤ x) && decide (x ≤ 3)) <;> rfl
theorem i_rule (r : Rule) (n : Nat) (hn : n ≤ ML) : i_ruleValid r (n : Int) = some (okRule n r) := by
  unfold i_ruleValid okRule
  rw [i_vars r n hn]
  cases hv : okVars n r.vars with
  | false => rfl
  | true =>
    show (if _ then _ else _) = _
    have e0 : ((r.vars.length : Int) == 0) = !decide ((r.vars.length : Int) ≥ 1) := by
      rw [Bool.eq_iff_iff, beq_iff_eq, Bool.not_eq_true', decide_eq_false_iff_not]; omega
    have e1 : decide ((r.coefs.length : Int) > 0) = ((r.coefs.length : Int) != 0) := by
      rw [Bool.eq_iff_iff, decide_eq_true_eq, bne_iff_ne]; omega
    have e2 : decide ((r.rows.length : Int) > 0) = ((r.rows.length : Int) != 0) := by
      rw [Bool.eq_iff_iff, decide_eq_true_eq, bne_iff_ne]; omega
    rw [e0, e1, e2, Bool.true_and]
    generalize (((!decide ((r.vars.length : Int) ≥ 1)) || ((r.kind != 1) && (((r.coefs.length : Int) != 0) || (r.bound != 0)))) || ((r.kind != 3) && ((r.rows.length : Int) != 0))) = c
    cases c with
    | true => rfl
    | false =>
      rw [if_neg Bool.false_ne_true, if_neg Bool.false_ne_true, i_coefs, i_rows, within_eq]
      cases hk1 : r.kind == 1 with
      | true =>
        rw [if_pos rfl, if_pos rfl]
        have e3 : decide (-1000 ≤ r.bound) = decide (r.bound ≥ -1000) := rfl
        rw [e3]
        cases (r.coefs.length : Int) == (r.vars.length : Int) <;> cases decide (r.bound ≥ -1000) <;> cases decide (r.bound ≤ 1000) <;> cases r.coefs.all qCoef <;> rfl
      | false =>
        rw [if_neg Bool.false_ne_true, if_neg Bool.false_ne_true]
        cases hk2 : r.kind == 2 with
        | true =>
          have hk : r.kind = 2 := by simpa using hk2
          rw [hk]; rfl
        | false =>
          rw [if_neg Bool.false_ne_true]
          cases hk3 : r.kind == 3 with
          | true =>
            rw [if_pos rfl, if_pos rfl]
            cases decide ((r.rows.length : Int) ≤ 8) <;> cases r.rows.all (qRow r.vars.length) <;> rfl
          | false =>
            rw [if_neg Bool.false_ne_true, if_neg Bool.false_ne_true]
            cases hk4 : r.kind == 4 with
            | true => rfl
            | false => rfl
def qSize (x : Int) : Bool := decide (0 ≤ x) && decide (x ≤ 3)
def gsum (xs : List Int) : Int := xs.foldl (fun n x => n + x + 1) 0
theorem gsum_next (xs : List Int) (i : Nat) (h : i < xs.length) : gsum (xs.take (i + 1)) = gsum (xs.take i) + xs[i] + 1 := by
  unfold gsum
  rw [List.take_add_one, List.getElem?_eq_getElem h, List.foldl_append]
  rfl
theorem all_next (q : Int → Bool) (xs : List Int) (i : Nat) (h : i < xs.length) : (xs.take (i + 1)).all q = ((xs.take i).all q && q xs[i]) := by
  rw [List.take_add_one, List.getElem?_eq_getElem h, List.all_append]
  simp
theorem all_false (q : Int → Bool) (xs : List Int) (i : Nat) (h : i < xs.length) (hq : q xs[i] = false) : xs.all q = false := by
  rw [List.all_eq_false]
  exact ⟨xs[i], List.getElem_mem h, by simp [hq]⟩
theorem qSize_iff {x : Int} : qSize x = true ↔ 0 ≤ x ∧ x ≤ 3 := by unfold qSize; simp
theorem gsum_bound (xs : List Int) (h : xs.all qSize = true) : 0 ≤ gsum xs ∧ gsum xs ≤ 4 * xs.length := by
  have : ∀ i, i ≤ xs.length → 0 ≤ gsum (xs.take i) ∧ gsum (xs.take i) ≤ 4 * i := by
    intro i
    induction i with
    | zero => intro _; simp [gsum]
    | succ i ih =>
      intro hi
      have hb := qSize_iff.1 (List.all_eq_true.1 h xs[i] (List.getElem_mem (by omega)))
      have := ih (by omega)
      rw [gsum_next xs i (by omega)]
      omega
  have h2 := this xs.length (Nat.le_refl _)
  rwa [List.take_length] at h2
def okModel (m : Model) : Bool :=
  if (((decide ((m.sizes.length : Int) < 1)) || (decide ((m.sizes.length : Int) > 5))) || (decide (gsum m.sizes > 12))) || (decide ((m.rules.length : Int) > 8)) then false
  else m.sizes.all qSize && m.rules.all (okRule m.sizes.length)
theorem s_sizes (m : Model) (fu : Nat) (hf : FU ≤ fu) : ∃ j, whileL (s_ModelValid_b1 m) fu (0, 0) = some j ∧
    (match j with | .nx s => m.sizes.length ≤ 5 → s.1 = gsum m.sizes ∧ m.sizes.all qSize = true | .out t => t = false ∧ m.sizes.all qSize = false) := by
  refine while_inv (b := s_ModelValid_b1 m) (fun n s => n ≤ 5 ∧ ∃ i : Nat, n = 5 - i ∧ i ≤ m.sizes.length ∧ i ≤ 5 ∧ s.2 = (i : Int) ∧ s.1 = gsum (m.sizes.take i) ∧ (m.sizes.take i).all qSize = true ∧ 0 ≤ s.1 ∧ s.1 ≤ 4 * i)
    (fun j => match j with | .nx s => m.sizes.length ≤ 5 → s.1 = gsum m.sizes ∧ m.sizes.all qSize = true | .out t => t = false ∧ m.sizes.all qSize = false) ?_ fu 5 (0, 0) ⟨by omega, 0, by omega, by omega, by omega, rfl, rfl, rfl, by simp, by simp⟩ (by unfold FU at hf; omega)
  rintro n ⟨k, w⟩ ⟨hn5, i, rfl, hi, hi5, hw, hk, ha, hk0, hk1⟩
  simp only at hw hk hk0 hk1
  subst hw
  by_cases hlt : i < m.sizes.length ∧ i < 5
  · have hbody : s_ModelValid_b1 m (k, (i : Int)) = (if ((decide (m.sizes[i] < 0)) || (decide (m.sizes[i] > 3))) then (some (.out false)) else (some (.cont (i64 ((i64 (k + m.sizes[i])) + 1), i64 ((i : Int) + 1))))) := by
      show (if _ then _ else _) = _
      rw [if_pos (by simp; omega), idx_lt hlt.1]
      rfl
    cases hq : qSize m.sizes[i] with
    | true =>
      have hb := qSize_iff.1 hq
      refine ⟨.cont (k + m.sizes[i] + 1, ((i + 1 : Nat) : Int)), ?_, _, ?_, by omega, i + 1, rfl, hlt.1, hlt.2, rfl, ?_, ?_, ?_, ?_⟩
      · rw [hbody, if_neg (by simp; omega), i64_id (n := (i : Int) + 1) (by omega) (by omega), i64_id (n := k + m.sizes[i]) (by omega) (by omega), i64_id (by omega) (by omega)]
        rfl
      · omega
      · rw [gsum_next _ _ hlt.1, hk]
      · rw [all_next _ _ _ hlt.1, ha, hq]; rfl
      · show 0 ≤ k + m.sizes[i] + 1; omega
      · show k + m.sizes[i] + 1 ≤ 4 * ((i + 1 : Nat) : Int); omega
    | false =>
      refine ⟨.out false, ?_, rfl, all_false _ _ _ hlt.1 hq⟩
      have hnb : ¬ (0 ≤ m.sizes[i] ∧ m.sizes[i] ≤ 3) := fun h => by rw [qSize_iff.2 h] at hq; cases hq
      rw [hbody, if_pos (by simp; omega)]
  · refine ⟨.brk (k, (i : Int)), ?_, fun h5 => ?_⟩
    · show (if _ then _ else _) = _
      rw [if_neg (by simp; omega)]
    · obtain rfl : i = m.sizes.length := by omega
      rw [List.take_length] at hk ha
      exact ⟨hk, ha⟩
theorem s_model (m : Model) (h : smallM m) (fu : Nat) (hf : FU ≤ fu) : s_ModelValid fu m = some (okModel m) := by
  unfold s_ModelValid okModel
  obtain ⟨j, hj, hQ⟩ := s_sizes m fu hf
  rw [hj, Option.bind_some]
  cases j with
  | out t =>
    simp only at hQ
    obtain ⟨rfl, hf⟩ := hQ
    rw [hf, Bool.false_and, ite_self]
  | nx s =>
    obtain ⟨n, i⟩ := s
    by_cases h5 : m.sizes.length ≤ 5
    · obtain ⟨hn, ha⟩ := hQ h5
      simp only at hn
      subst hn
      rw [ha, Bool.true_and]
      have h2 : rangeL (s_ModelValid_b2 m) m.rules 0 () = some (if m.rules.all (okRule m.sizes.length) then .nx () else .out false) := by
        refine range_all _ _ _ fun i r hr => ?_
        show (s_l6Rule m r).bind _ = _
        rw [s_rule m r (h.2.2 r (List.mem_of_getElem? hr)), Option.bind_some]
        cases okRule m.sizes.length r <;> rfl
      simp only [h2, Option.bind_some]
      rw [apply_ite some]
      congr 1
      cases m.rules.all (okRule m.sizes.length) <;> rfl
    · have e : ((((decide ((m.sizes.length : Int) < 1)) || (decide ((m.sizes.length : Int) > 5))) || (decide (gsum m.sizes > 12))) || (decide ((m.rules.length : Int) > 8))) = true := by simp; omega
      have e' : ((((decide ((m.sizes.length : Int) < 1)) || (decide ((m.sizes.length : Int) > 5))) || (decide (n > 12))) || (decide ((m.rules.length : Int) > 8))) = true := by simp; omega
      simp only [e, e', if_true]
theorem i_sizes (m : Model) (h5 : m.sizes.length ≤ 5) : ∃ j, rangeL i_ModelValid_b1 m.sizes 0 0 = some j ∧
    (match j with | .nx s => s = gsum m.sizes ∧ m.sizes.all qSize = true | .out t => t = false ∧ m.sizes.all qSize = false) := by
  refine range_inv m.sizes (fun i c => c = gsum (m.sizes.take i) ∧ (m.sizes.take i).all qSize = true ∧ 0 ≤ c ∧ c ≤ 4 * i)
    (fun j => match j with | .nx s => s = gsum m.sizes ∧ m.sizes.all qSize = true | .out t => t = false ∧ m.sizes.all qSize = false) ?_ ?_ 0 ⟨rfl, rfl, by simp, by simp⟩
  · rintro c ⟨hc, ha, _, _⟩
    rw [List.take_length] at hc ha
    exact ⟨hc, ha⟩
  · rintro i x c hx ⟨hc, ha, h0, h1⟩
    have hi := (List.getElem?_eq_some_iff.1 hx).1
    obtain rfl : m.sizes[i] = x := (List.getElem?_eq_some_iff.1 hx).2
    cases hq : qSize m.sizes[i] with
    | true =>
      have hb := qSize_iff.1 hq
      refine ⟨.cont (c + m.sizes[i] + 1), ?_, by rw [gsum_next _ _ hi, hc], by rw [all_next _ _ _ hi, ha, hq]; rfl, by omega, by omega⟩
      simp only [i_ModelValid_b1, within_eq, Option.bind_some]
      have : (decide (0 ≤ m.sizes[i]) && decide (m.sizes[i] ≤ 3)) = true := hq
      rw [this, if_neg (by simp), i64_id (n := m.sizes[i] + 1) (by omega) (by omega), i64_id (by omega) (by omega)]
      rw [Int.add_assoc]
    | false =>
      refine ⟨.out false, ?_, rfl, all_false _ _ _ hi hq⟩
      simp only [i_ModelValid_b1, within_eq, Option.bind_some]
      have : (decide (0 ≤ m.sizes[i]) && decide (m.sizes[i] ≤ 3)) = false := hq
      rw [this]; rfl
theorem i_model (m : Model) (h : smallM m) : i_ModelValid m = some (okModel m) := by
  unfold i_ModelValid okModel
  rw [within_eq, Option.bind_some]
  by_cases h1 : 1 ≤ m.sizes.length ∧ m.sizes.length ≤ 5 ∧ m.rules.length ≤ 8
  · have e1 : ((!(decide (1 ≤ (m.sizes.length : Int)) && decide ((m.sizes.length : Int) ≤ 5))) || decide ((m.rules.length : Int) > 8)) = false := by
      rw [show decide (1 ≤ (m.sizes.length : Int)) = true from decide_eq_true (by omega), show decide ((m.sizes.length : Int) ≤ 5) = true from decide_eq_true (by omega), show decide ((m.rules.length : Int) > 8) = false from decide_eq_false (by omega)]
      rfl
    rw [e1, if_neg Bool.false_ne_true]
    have e2 : ((((decide ((m.sizes.length : Int) < 1)) || (decide ((m.sizes.length : Int) > 5))) || (decide (gsum m.sizes > 12))) || (decide ((m.rules.length : Int) > 8))) = decide (gsum m.sizes > 12) := by
      rw [show decide ((m.sizes.length : Int) < 1) = false from decide_eq_false (by omega), show decide ((m.sizes.length : Int) > 5) = false from decide_eq_false (by omega), show decide ((m.rules.length : Int) > 8) = false from decide_eq_false (by omega)]
      simp
    rw [e2]
    obtain ⟨j, hj, hQ⟩ := i_sizes m h1.2.1
    rw [hj, Option.bind_some]
    cases j with
    | out t =>
      simp only at hQ
      rw [hQ.1, hQ.2, Bool.false_and, ite_self]
    | nx c =>
      simp only at hQ
      obtain ⟨rfl, ha⟩ := hQ
      rw [ha, Bool.true_and]
      have e3 : slices_ContainsFunc_implRule m.rules (i_ModelValid_1 m) = some (!m.rules.all (okRule m.sizes.length)) := by
        rw [← any_not_all]
        refine containsFuncRule m.rules _ _ fun r hr => ?_
        unfold i_ModelValid_1
        rw [i_rule r _ (by have := h1.2.1; unfold ML; omega)]
        rfl
      have e4 : decide (gsum m.sizes ≤ 12) = !decide (gsum m.sizes > 12) := by rw [← decide_not, decide_eq_decide]; omega
      simp only [e3, e4]
      cases decide (gsum m.sizes > 12) <;> cases m.rules.all (okRule m.sizes.length) <;> rfl
  · have e1 : ((!(decide (1 ≤ (m.sizes.length : Int)) && decide ((m.sizes.length : Int) ≤ 5))) || decide ((m.rules.length : Int) > 8)) = true := by
      simp; omega
    have e2 : ((((decide ((m.sizes.length : Int) < 1)) || (decide ((m.sizes.length : Int) > 5))) || (decide (gsum m.sizes > 12))) || (decide ((m.rules.length : Int) > 8))) = true := by
      simp; omega
    rw [e1, e2, if_pos rfl, if_pos rfl]
theorem okModel_parts {m : Model} (h : okModel m = true) : 1 ≤ m.sizes.length ∧ m.sizes.length ≤ 5 ∧ m.sizes.all qSize = true ∧ m.rules.length ≤ 8 ∧ gsum m.sizes ≤ 12 ∧ m.rules.all (okRule m.sizes.length) = true := by
  unfold okModel at h
  split at h
  · cases h
  · rename_i hc
    simp at hc
    rw [Bool.and_eq_true] at h
    exact ⟨by omega, by omega, h.1, by omega, by omega, h.2⟩
end Go.L
namespace Go.L
open Go Go.E
set_option linter.unusedVariables false
theorem take_all (xs : List Int) (i : Nat) (h : xs.all qSize = true) : (xs.take i).all qSize = true := by
  rw [List.all_eq_true] at h ⊢
  exact fun x hx => h x (List.mem_of_mem_take hx)
def boolVar (m : Model) (c : Nat) (v : Int) : Int := 1 + v + gsum (m.sizes.take c)
theorem s_var (m : Model) (c : Nat) (v : Int) (hc : c ≤ m.sizes.length) (h5 : m.sizes.length ≤ 5) (ha : m.sizes.all qSize = true) (hv : 0 ≤ v ∧ v ≤ 3) : s_l7Var m (c : Int) v = some (boolVar m c v) := by
  unfold s_l7Var
  rw [i64_id (n := 1 + v) (by omega) (by omega), cntF_nat (by omega), Option.bind_some]
  have h := count_to (b := s_l7Var_b1 m) (fun i => 1 + v + gsum (m.sizes.take i)) c 0 (by
    intro i _ hi
    have hil : i < m.sizes.length := by omega
    have hb := qSize_iff.1 (List.all_eq_true.1 ha m.sizes[i] (List.getElem_mem hil))
    have hg := gsum_bound _ (take_all m.sizes i ha)
    have hl : (m.sizes.take i).length ≤ 5 := by simp; omega
    show (idx m.sizes (i : Int)).bind _ = _
    rw [idx_lt hil, Option.bind_some, i64_id (n := 1 + v + gsum (m.sizes.take i) + m.sizes[i]) (by omega) (by omega), i64_id (by omega) (by omega), gsum_next _ _ hil]
    congr 2; omega)
  rw [Nat.zero_add] at h
  have e : 1 + v + gsum (m.sizes.take 0) = 1 + v := by simp [gsum]
  rw [e] at h
  rw [h]; rfl
theorem i_var (m : Model) (c : Nat) (v : Int) (hc : c ≤ m.sizes.length) (h5 : m.sizes.length ≤ 5) (ha : m.sizes.all qSize = true) (hv : 0 ≤ v ∧ v ≤ 3) : i_Model_boolVar m (c : Int) v = some (boolVar m c v) := by
  unfold i_Model_boolVar
  rw [sl_pre hc, Option.bind_some, i64_id (n := 1 + v) (by omega) (by omega)]
  have hal := take_all m.sizes c ha
  have hl : (m.sizes.take c).length ≤ 5 := by simp; omega
  unfold boolVar
  generalize m.sizes.take c = xs at *
  have h := range_to (b := i_Model_boolVar_b1) (fun i => 1 + v + gsum (xs.take i)) xs (by
    intro i x hx
    have hi := (List.getElem?_eq_some_iff.1 hx).1
    obtain rfl : xs[i] = x := (List.getElem?_eq_some_iff.1 hx).2
    have hb := qSize_iff.1 (List.all_eq_true.1 hal xs[i] (List.getElem_mem hi))
    have hg := gsum_bound _ (take_all xs i hal)
    have hl2 : (xs.take i).length ≤ 5 := by simp; omega
    simp only [i_Model_boolVar_b1]
    rw [i64_id (n := xs[i] + 1) (by omega) (by omega), i64_id (by omega) (by omega), gsum_next _ _ hi]
    congr 2; omega)
  have e : 1 + v + gsum (xs.take 0) = 1 + v := by simp [gsum]
  rw [e] at h
  rw [h]
  simp
theorem sizes_get {m : Model} (ha : m.sizes.all qSize = true) {i : Nat} (hi : i < m.sizes.length) : 0 ≤ m.sizes[i] ∧ m.sizes[i] ≤ 3 := qSize_iff.1 (List.all_eq_true.1 ha m.sizes[i] (List.getElem_mem hi))
theorem boolVar_range {m : Model} (h : okModel m = true) {c : Nat} (hc : c < m.sizes.length) {v : Int} (hv : 0 ≤ v ∧ v ≤ m.sizes[c]) : 1 ≤ boolVar m c v ∧ boolVar m c v ≤ gsum m.sizes ∧ boolVar m c v ≤ 12 := by
  obtain ⟨h1, h5, ha, _, hg, _⟩ := okModel_parts h
  have b1 := gsum_bound _ (take_all m.sizes c ha)
  have mono2 : ∀ k, c + 1 + k ≤ m.sizes.length → gsum (m.sizes.take (c + 1)) ≤ gsum (m.sizes.take (c + 1 + k)) := by
    intro k
    induction k with
    | zero => intro _; exact Int.le_refl _
    | succ k ih =>
      intro hk
      have := ih (by omega)
      have hb := sizes_get ha (i := c + 1 + k) (by omega)
      have hg2 := gsum_next m.sizes (c + 1 + k) (by omega)
      rw [← Nat.add_assoc]
      omega
  have h2 := mono2 (m.sizes.length - (c + 1)) (by omega)
  rw [show c + 1 + (m.sizes.length - (c + 1)) = m.sizes.length from by omega, List.take_length, gsum_next _ _ hc] at h2
  unfold boolVar
  omega
theorem eq_list {α : Type} [BEq α] [LawfulBEq α] {xs ys : List α} {b : Nat → α → Unit → Option (Lo Unit Bool)} {all : Option Bool} {k : Jn Unit Bool → Option Bool}
    (e : all = if ((xs.length : Int) != (ys.length : Int)) then (some false) else ((rangeL b xs 0 ()).bind k)) (hk : k (.nx ()) = some true) (hk2 : k (.out false) = some false)
    (hb : ∀ i x y, xs[i]? = some x → ys[i]? = some y → b i x () = some (if x == y then .cont () else .out false)) : all = some (xs == ys) := by
  rw [e]
  by_cases hl : xs.length = ys.length
  · rw [if_neg (by simp [hl])]
    have h := range_allI (fun i x => ys[i]? == some x) false (b := b) xs (by
      intro i x hx
      have hi := (List.getElem?_eq_some_iff.1 hx).1
      have hy : ys[i]? = some (ys[i]'(by omega)) := List.getElem?_eq_getElem (by omega)
      rw [hb i x _ hx hy, hy]
      congr 1
      by_cases h : x = ys[i]'(by omega)
      · simp [h]
      · have h2 : ¬ ys[i]'(by omega) = x := fun e => h e.symm
        simp [h, h2])
    rw [h, Option.bind_some]
    have : allFrom (fun i x => ys[i]? == some x) xs 0 = (xs == ys) := by
      rw [Bool.eq_iff_iff, allFrom_iff, beq_iff_eq]
      constructor
      · intro h
        refine List.ext_getElem? fun i => ?_
        rcases Nat.lt_or_ge i xs.length with hi | hi
        · have := h i xs[i] (List.getElem?_eq_getElem hi)
          rw [Nat.zero_add, beq_iff_eq] at this
          rw [this, List.getElem?_eq_getElem hi]
        · rw [List.getElem?_eq_none hi, List.getElem?_eq_none (by omega)]
      · intro h i x hx
        rw [Nat.zero_add, ← h, hx]; simp
    rw [this]
    cases xs == ys <;> simp [hk, hk2]
  · rw [if_pos (by simp; omega)]
    congr 1
    symm
    rw [beq_eq_false_iff_ne]
    intro e; exact hl (congrArg List.length e)
theorem s_ints (a b : List Int) : s_l6Ints a b = some (a == b) :=
  eq_list (b := s_l6Ints_b1 b) rfl rfl rfl (fun i x y hx hy => by show (idx b (i : Int)).bind _ = _; rw [idx_self hy, Option.bind_some, bne]; cases x == y <;> rfl)
theorem i_ints (a b : List Int) : slices_Equal_int a b = some (a == b) :=
  eq_list (b := slices_Equal_int_b1 b) rfl rfl rfl (fun i x y hx hy => by show (idx b (i : Int)).bind _ = _; rw [idx_self hy, Option.bind_some, bne]; cases x == y <;> rfl)
def cellsIn (m : Model) (cells : List Int) : Bool := ((cells.length : Int) == (m.sizes.length : Int)) && allFrom (fun i x => decide (0 ≤ x) && decide (x ≤ m.sizes.getD i 0)) cells 0
def okCells (m : Model) (cells : List Int) : Bool := okModel m && cellsIn m cells
theorem getD_lt {α : Type} {xs : List α} {i : Nat} {d : α} (h : i < xs.length) : xs.getD i d = xs[i] := by rw [List.getD_eq_getElem?_getD, List.getElem?_eq_getElem h]; rfl
theorem i_cells (m : Model) (h : smallM m) (cells : List Int) : i_CellsValid m cells = some (okCells m cells) := by
  unfold i_CellsValid okCells cellsIn
  rw [i_model m h, Option.bind_some]
  cases okModel m with
  | false => rfl
  | true =>
    by_cases hl : cells.length = m.sizes.length
    · rw [if_neg (by simp [hl])]
      rw [range_allI (fun i x => decide (0 ≤ x) && decide (x ≤ m.sizes.getD i 0)) false cells]
      · rw [show ((cells.length : Int) == (m.sizes.length : Int)) = true from by simp [hl], Bool.true_and, Bool.true_and]
        cases allFrom (fun i x => decide (0 ≤ x) && decide (x ≤ m.sizes.getD i 0)) cells 0 <;> rfl
      · intro i x hx
        have hi := (List.getElem?_eq_some_iff.1 hx).1
        show (idx m.sizes (i : Int)).bind _ = _
        rw [idx_lt (show i < m.sizes.length by omega), getD_lt (by omega), Option.bind_some, within_eq, Option.bind_some]
        cases decide (0 ≤ x) <;> cases decide (x ≤ m.sizes[i]) <;> rfl
    · rw [if_pos (by simp; omega), show ((cells.length : Int) == (m.sizes.length : Int)) = false from by simp; omega]
      rfl
theorem cellsIn_iff {m : Model} {cells : List Int} : cellsIn m cells = true ↔ cells.length = m.sizes.length ∧ ∀ i x, cells[i]? = some x → 0 ≤ x ∧ x ≤ m.sizes.getD i 0 := by
  unfold cellsIn
  rw [Bool.and_eq_true, allFrom_iff, beq_iff_eq]
  constructor
  · rintro ⟨h1, h2⟩
    exact ⟨by omega, fun i x hx => by have := h2 i x hx; simpa using this⟩
  · rintro ⟨h1, h2⟩
    exact ⟨by omega, fun i x hx => by have := h2 i x hx; simpa using this⟩
def dotTo (cs vs : List Int) (i : Nat) : Int := ((cs.zip vs).take i).foldl (fun n p => n + p.1 * p.2) 0
def dot (cs vs : List Int) : Int := (cs.zip vs).foldl (fun n p => n + p.1 * p.2) 0
theorem dot_next (cs vs : List Int) (i : Nat) (h1 : i < cs.length) (h2 : i < vs.length) : dotTo cs vs (i + 1) = dotTo cs vs i + cs[i] * vs[i] := by
  unfold dotTo
  rw [List.take_add_one, List.getElem?_eq_getElem (by simp; omega), List.foldl_append]
  simp
def distinct (vs : List Int) : Bool := allFrom (fun i x => !(vs.take i).contains x) vs 0
def ruleHolds (r : Rule) (vs : List Int) : Bool :=
  if r.kind == 1 then decide (dot r.coefs vs ≥ r.bound) else if r.kind == 2 then distinct vs else if r.kind == 4 then decide (vs.getD 0 0 < vs.getD 1 0) else r.rows.any (fun row => row == vs)
def valsOf (r : Rule) (cells : List Int) : List Int := r.vars.map fun v => cells.getD v.toNat 0
theorem prod_bound {x y : Int} (h : -9 ≤ x ∧ x ≤ 9) (k : 0 ≤ y ∧ y ≤ 3) : -27 ≤ x * y ∧ x * y ≤ 27 := by
  obtain rfl | rfl | rfl | rfl : y = 0 ∨ y = 1 ∨ y = 2 ∨ y = 3 := by omega
  all_goals omega
theorem dot_bound (cs vs : List Int) (hc : cs.all qCoef = true) (hv : ∀ x ∈ vs, 0 ≤ x ∧ x ≤ 3) (hl : cs.length = vs.length) : ∀ i, i ≤ vs.length → -27 * i ≤ dotTo cs vs i ∧ dotTo cs vs i ≤ 27 * i := by
  intro i
  induction i with
  | zero => intro _; simp [dotTo]
  | succ i ih =>
    intro hi
    have := ih (by omega)
    have hq := List.all_eq_true.1 hc cs[i] (List.getElem_mem (by omega))
    unfold qCoef at hq
    simp at hq
    have hb := prod_bound (x := cs[i]) (y := vs[i]) ⟨by omega, by omega⟩ (hv _ (List.getElem_mem _))
    rw [dot_next _ _ _ (by omega) (by omega)]
    omega
theorem dot_full (cs vs : List Int) (h : cs.length = vs.length) : dotTo cs vs vs.length = dot cs vs := by
  unfold dotTo dot
  rw [List.take_of_length_le (by simp; omega)]
theorem dot_loop (cs vs : List Int) (hc : cs.all qCoef = true) (hv : ∀ x ∈ vs, 0 ≤ x ∧ x ≤ 3) (hl : cs.length = vs.length) (h5 : vs.length ≤ 1048576) {τ : Type} {b : Nat → Int → Int → Option (Lo Int τ)}
    (hb : ∀ i x n, b i x n = (idx cs (i : Int)).bind fun c => some (.cont (i64 (n + (i64 (c * x)))))) : rangeL b vs 0 0 = some (.nx (dot cs vs)) := by
  have h := range_to (b := b) (fun i => dotTo cs vs i) vs (by
    intro i x hx
    have hi := (List.getElem?_eq_some_iff.1 hx).1
    obtain rfl : vs[i] = x := (List.getElem?_eq_some_iff.1 hx).2
    have hq := List.all_eq_true.1 hc cs[i] (List.getElem_mem (by omega))
    unfold qCoef at hq
    simp at hq
    have hp := prod_bound (x := cs[i]) (y := vs[i]) ⟨by omega, by omega⟩ (hv _ (List.getElem_mem _))
    have hd := dot_bound cs vs hc hv hl i (by omega)
    rw [hb, idx_lt (by omega), Option.bind_some, i64_id (n := cs[i] * vs[i]) (by omega) (by omega), i64_id (by omega) (by omega), dot_next _ _ _ (by omega) (by omega)])
  rw [dot_full _ _ hl] at h
  exact h
theorem okRule_parts {n : Nat} {r : Rule} (h : okRule n r = true) : okVars n r.vars = true ∧ 1 ≤ r.vars.length ∧ ((r.kind = 1 ∧ r.coefs.all qCoef = true ∧ r.coefs.length = r.vars.length ∧ -1000 ≤ r.bound ∧ r.bound ≤ 1000) ∨ r.kind = 2 ∨ (r.kind = 3 ∧ r.rows.all (qRow r.vars.length) = true ∧ r.rows.length ≤ 8) ∨ (r.kind = 4 ∧ r.vars.length = 2)) := by
  unfold okRule at h
  split at h
  · cases h
  · rename_i hc
    simp at hc
    refine ⟨hc.1.1.1, by omega, ?_⟩
    split at h
    · rename_i hk
      simp at hk h
      exact .inl ⟨hk, by simpa using h.1, by omega, by omega, by omega⟩
    · split at h
      · rename_i _ hk; simp at hk; exact .inr (.inl hk)
      · split at h
        · rename_i _ _ hk; simp at hk h; exact .inr (.inr (.inl ⟨hk, by simpa using h.1, by omega⟩))
        · split at h
          · rename_i _ _ _ hk; simp at hk h; exact .inr (.inr (.inr ⟨hk, by omega⟩))
          · cases h
theorem okVars_iff {n : Nat} {xs : List Int} : okVars n xs = true ↔ (∀ x ∈ xs, 0 ≤ x ∧ x < (n : Int)) ∧ distinct xs = true := by
  unfold okVars distinct
  rw [allFrom_iff, allFrom_iff]
  constructor
  · intro h
    refine ⟨fun x hx => ?_, fun i x hx => ?_⟩
    · obtain ⟨i, hi, rfl⟩ := List.mem_iff_getElem.1 hx
      have := h i xs[i] (List.getElem?_eq_getElem hi)
      unfold gqVars at this
      simp at this
      omega
    · have := h i x hx
      unfold gqVars at this
      rw [Bool.and_eq_true] at this
      exact this.2
  · rintro ⟨h1, h2⟩ i x hx
    have := h1 x (List.mem_of_getElem? hx)
    have h3 := h2 i x hx
    unfold gqVars
    rw [Bool.and_eq_true]
    exact ⟨by simp; omega, h3⟩
theorem valsOf_bound {m : Model} {cells : List Int} (ha : m.sizes.all qSize = true) (hc : cellsIn m cells = true) (r : Rule) (hv : okVars m.sizes.length r.vars = true) : ∀ x ∈ valsOf r cells, 0 ≤ x ∧ x ≤ 3 := by
  intro x hx
  obtain ⟨v, hvm, rfl⟩ := List.mem_map.1 hx
  obtain ⟨h1, h2⟩ := cellsIn_iff.1 hc
  have hb := (okVars_iff.1 hv).1 v hvm
  have hl : v.toNat < cells.length := by omega
  rw [getD_lt hl]
  have h3 := h2 v.toNat cells[v.toNat] (List.getElem?_eq_getElem hl)
  rw [getD_lt (by omega)] at h3
  have := sizes_get ha (i := v.toNat) (by omega)
  omega
theorem vals_loop (n : Nat) (r : Rule) (cells : List Int) (hn : cells.length = n) (hv : okVars n r.vars = true) (hl : r.vars.length ≤ 1048576) {τ : Type} {b : Nat → Int → List Int → Option (Lo (List Int) τ)}
    (hb : ∀ i x out, b i x out = (idx cells x).bind fun y => (app out ([y])).bind fun z => some (.cont z)) : rangeL b r.vars 0 [] = some (.nx (valsOf r cells)) := by
  refine range_map (fun v => cells.getD v.toNat 0) r.vars ?_
  intro i x out hx ho
  have hi := (List.getElem?_eq_some_iff.1 hx).1
  have hb1 := (okVars_iff.1 hv).1 x (List.mem_of_getElem? hx)
  rw [hb, idx_get hb1.1 (by omega), Option.bind_some, app_le (by simp; omega), Option.bind_some, getD_lt (by omega)]
theorem less_idx {vs : List Int} (h : vs.length = 2) : ((idx vs 0).bind fun x => (idx vs 1).bind fun y => some (decide (x < y))) = some (decide (vs.getD 0 0 < vs.getD 1 0)) := by
  match vs, h with
  | [x, y], _ => rfl
theorem s_holds {m : Model} {cells : List Int} (hs : smallM m) (h5 : m.sizes.length ≤ 5) (ha : m.sizes.all qSize = true) (hc : cellsIn m cells = true) (r : Rule) (hr : r ∈ m.rules) (hok : okRule m.sizes.length r = true) :
    s_l6Holds r cells = some (ruleHolds r (valsOf r cells)) := by
  obtain ⟨hv, hv1, hk⟩ := okRule_parts hok
  have hsm := hs.2.2 r hr
  have hvb := valsOf_bound ha hc r hv
  have hlen : (valsOf r cells).length = r.vars.length := by simp [valsOf]
  unfold s_l6Holds
  rw [vals_loop m.sizes.length r cells (cellsIn_iff.1 hc).1 hv hsm.1 (b := s_l6Holds_b1 cells) (fun _ _ _ => rfl), Option.bind_some]
  simp only
  unfold ruleHolds
  have h51 := hsm.1
  rcases hk with ⟨hk, hc1, hc2, _⟩ | hk | ⟨hk, _⟩ | ⟨hk, h2⟩
  · rw [hk]
    simp only [beq_self_eq_true, if_true]
    rw [dot_loop r.coefs _ hc1 hvb (by omega) (by omega) (b := s_l6Holds_b2 r) (fun _ _ _ => rfl)]
    rfl
  · rw [hk]
    rw [show ((2 : Int) == 1) = false from rfl, show ((2 : Int) == 2) = true from rfl]
    simp only [ite_false']
    rw [range_allI (fun i x => !((valsOf r cells).take i).contains x) false]
    · unfold distinct
      cases allFrom (fun i x => !((valsOf r cells).take i).contains x) (valsOf r cells) 0 <;> rfl
    · intro i x hx
      have hi := (List.getElem?_eq_some_iff.1 hx).1
      show (cntF 0 (i : Int)).bind _ = _
      rw [cntF_nat (by omega), Option.bind_some, count_notin (valsOf r cells) x (.out false) i (by omega) fun k hk => rfl]
      cases ((valsOf r cells).take i).contains x <;> rfl
  · rw [hk]
    rw [show ((3 : Int) == 1) = false from rfl, show ((3 : Int) == 2) = false from rfl, show ((3 : Int) == 4) = false from rfl]
    simp only [ite_false']
    rw [range_any (fun row => row == valsOf r cells) true]
    · cases r.rows.any (fun row => row == valsOf r cells) <;> rfl
    · intro i x hx
      show (s_l6Ints x _).bind _ = _
      rw [s_ints, Option.bind_some]
      cases x == valsOf r cells <;> rfl
  · rw [hk]
    rw [show ((4 : Int) == 1) = false from rfl, show ((4 : Int) == 2) = false from rfl, show ((4 : Int) == 4) = true from rfl]
    simp only [ite_false']
    exact less_idx (by omega)
theorem i_holdsV (n : Nat) (r : Rule) (vs : List Int) (hlen : vs.length = r.vars.length) (hl : r.vars.length ≤ 1048576) (hvb : ∀ x ∈ vs, 0 ≤ x ∧ x ≤ 3) (hok : okRule n r = true) : i_Rule_holds r vs = some (ruleHolds r vs) := by
  obtain ⟨hv, hv1, hk⟩ := okRule_parts hok
  unfold i_Rule_holds ruleHolds
  rcases hk with ⟨hk, hc1, hc2, _⟩ | hk | ⟨hk, _⟩ | ⟨hk, h2⟩
  · rw [hk]
    simp only [beq_self_eq_true, if_true]
    rw [dot_loop r.coefs _ hc1 hvb (by omega) (by omega) (b := i_Rule_holds_b1 r) (fun _ _ _ => rfl)]
    rfl
  · rw [hk]
    rw [show ((2 : Int) == 1) = false from rfl, show ((2 : Int) == 2) = true from rfl]
    simp only [ite_false', if_true]
    rw [range_allI (fun i x => !(vs.take i).contains x) false]
    · unfold distinct
      cases allFrom (fun i x => !(vs.take i).contains x) vs 0 <;> rfl
    · intro i x hx
      have hi := (List.getElem?_eq_some_iff.1 hx).1
      show (sl vs 0 (i : Int)).bind _ = _
      rw [sl_pre (by omega), Option.bind_some, containsInt, Option.bind_some]
      cases (vs.take i).contains x <;> rfl
  · rw [hk]
    rw [show ((3 : Int) == 1) = false from rfl, show ((3 : Int) == 2) = false from rfl, show ((3 : Int) == 3) = true from rfl, show ((3 : Int) == 4) = false from rfl]
    simp only [ite_false', if_true]
    rw [containsFuncSint r.rows _ (fun row => row == vs) fun row _ => by unfold i_Rule_holds_1; rw [i_ints]; rfl]
    rfl
  · rw [hk]
    rw [show ((4 : Int) == 1) = false from rfl, show ((4 : Int) == 2) = false from rfl, show ((4 : Int) == 3) = false from rfl, show ((4 : Int) == 4) = true from rfl]
    simp only [ite_false', if_true]
    exact less_idx (by omega)
theorem i_at {m : Model} {cells : List Int} (hs : smallM m) (ha : m.sizes.all qSize = true) (hc : cellsIn m cells = true) (r : Rule) (hr : r ∈ m.rules) (hok : okRule m.sizes.length r = true) :
    i_Rule_at r cells = some (ruleHolds r (valsOf r cells)) := by
  obtain ⟨hv, hv1, hk⟩ := okRule_parts hok
  have hsm := hs.2.2 r hr
  unfold i_Rule_at
  rw [vals_loop m.sizes.length r cells (cellsIn_iff.1 hc).1 hv hsm.1 (b := i_Rule_at_b1 cells) (fun _ _ _ => rfl), Option.bind_some]
  simp only
  rw [i_holdsV m.sizes.length r _ (by simp [valsOf]) hsm.1 (valsOf_bound ha hc r hv) hok]
  rfl
theorem okCells_parts {m : Model} {cells : List Int} (h : okCells m cells = true) : okModel m = true ∧ cellsIn m cells = true := by unfold okCells at h; rwa [Bool.and_eq_true] at h
theorem okRule_mem {m : Model} (h : okModel m = true) {r : Rule} (hr : r ∈ m.rules) : okRule m.sizes.length r = true := List.all_eq_true.1 (okModel_parts h).2.2.2.2.2 r hr
def solves (m : Model) (cells : List Int) : Bool := m.rules.all fun r => ruleHolds r (valsOf r cells)
theorem i_solves {m : Model} {cells : List Int} (hs : smallM m) (hm : okModel m = true) (hc : cellsIn m cells = true) : i_Model_solves m cells = some (solves m cells) := by
  obtain ⟨h1, h5, ha, _⟩ := okModel_parts hm
  unfold i_Model_solves
  rw [containsFuncRule m.rules _ (fun r => !ruleHolds r (valsOf r cells)) fun r hr => by unfold i_Model_solves_1; rw [i_at hs ha hc r hr (okRule_mem hm hr)]; rfl]
  rw [any_not_all, Option.bind_some, Bool.not_not]
  rfl
end Go.L
namespace Go.L
open Go Go.E
set_option linter.unusedVariables false
def nextC : List Int → List Int → Option (List Int)
  | s :: ss, c :: cs => match nextC ss cs with
    | some cs' => some (c :: cs')
    | none => if c < s then some ((c + 1) :: List.replicate cs.length 0) else none
  | _, _ => none
def fit : List Int → List Int → Prop
  | [], [] => True
  | s :: ss, c :: cs => (0 ≤ c ∧ c ≤ s) ∧ fit ss cs
  | _, _ => False
theorem fit_iff : ∀ (ss cs : List Int), fit ss cs ↔ cs.length = ss.length ∧ ∀ i x, cs[i]? = some x → 0 ≤ x ∧ x ≤ ss.getD i 0
  | [], [] => by simp [fit]
  | [], c :: cs => by simp [fit]
  | s :: ss, [] => by simp [fit]
  | s :: ss, c :: cs => by
    rw [fit, fit_iff ss cs]
    constructor
    · rintro ⟨h0, h1, h2⟩
      refine ⟨by simp [h1], fun i x hx => ?_⟩
      cases i with
      | zero => simp at hx; subst hx; simpa using h0
      | succ i => simpa using h2 i x (by simpa using hx)
    · rintro ⟨h1, h2⟩
      refine ⟨by simpa using h2 0 c rfl, by simpa using h1, fun i x hx => ?_⟩
      simpa using h2 (i + 1) x (by simpa using hx)
theorem fit_len {ss cs : List Int} (h : fit ss cs) : cs.length = ss.length := ((fit_iff _ _).1 h).1
theorem fit_get {ss cs : List Int} (h : fit ss cs) {i : Nat} (hi : i < cs.length) : 0 ≤ cs[i] ∧ cs[i] ≤ ss[i]'(by rw [← fit_len h]; exact hi) := by
  have := ((fit_iff _ _).1 h).2 i cs[i] (List.getElem?_eq_getElem hi)
  rwa [getD_lt (by rw [← fit_len h]; exact hi)] at this
theorem cellsIn_fit {m : Model} {cells : List Int} : cellsIn m cells = true ↔ fit m.sizes cells := by rw [cellsIn_iff, fit_iff]
theorem nextC_drop : ∀ (i : Nat) (ss cs t : List Int), i ≤ cs.length → cs.length = ss.length → nextC (ss.drop i) (cs.drop i) = some t → nextC ss cs = some (cs.take i ++ t)
  | 0, ss, cs, t, _, _, h => by simpa using h
  | i + 1, s :: ss, c :: cs, t, hi, hl, h => by
    have := nextC_drop i ss cs t (by simpa using hi) (by simpa using hl) (by simpa using h)
    simp [nextC, this]
  | i + 1, [], c :: cs, t, hi, hl, h => by simp at hl
  | i + 1, s :: ss, [], t, hi, hl, h => by simp at hl
  | i + 1, [], [], t, hi, hl, h => by simp at hi
def zfrom (cs : List Int) (j : Nat) : List Int := cs.take j ++ List.replicate (cs.length - j) 0
theorem zfrom_set (cs : List Int) (j : Nat) (h : j < cs.length) (x : Int) : (zfrom cs (j + 1)).set j x = cs.take j ++ x :: List.replicate (cs.length - (j + 1)) 0 := by
  have e : cs.take (j + 1) = cs.take j ++ [cs[j]] := by rw [List.take_add_one, List.getElem?_eq_getElem h]; rfl
  have hl : (cs.take j).length = j := by simp; omega
  unfold zfrom
  rw [e, List.append_assoc, List.set_append_right _ _ (by omega), hl, Nat.sub_self]
  rfl
theorem zfrom_zero (cs : List Int) (j : Nat) (h : j < cs.length) : (zfrom cs (j + 1)).set j 0 = zfrom cs j := by
  rw [zfrom_set cs j h]
  unfold zfrom
  rw [show cs.length - j = (cs.length - (j + 1)) + 1 from by omega, List.replicate_succ]
theorem zfrom_get (cs : List Int) (j : Nat) (h : j < cs.length) : (zfrom cs (j + 1))[j]? = some cs[j] := by
  unfold zfrom
  rw [List.getElem?_append_left (by simp; omega), List.getElem?_take_of_lt (by omega), List.getElem?_eq_getElem h]
theorem next_up {ss cs : List Int} (hf : fit ss cs) {j : Nat} (hj : j < cs.length) (hn : nextC (ss.drop (j + 1)) (cs.drop (j + 1)) = none) (hlt : cs[j] < ss[j]'(by rw [← fit_len hf]; exact hj)) :
    nextC ss cs = some ((zfrom cs (j + 1)).set j (cs[j] + 1)) := by
  have hl := fit_len hf
  refine (nextC_drop j ss cs ((cs[j] + 1) :: List.replicate (cs.length - (j + 1)) 0) (by omega) hl ?_).trans ?_
  · rw [List.drop_eq_getElem_cons (show j < ss.length by omega), List.drop_eq_getElem_cons hj]
    simp [nextC, hn, hlt]
  · rw [zfrom_set cs j hj]
theorem next_no {ss cs : List Int} (hf : fit ss cs) {j : Nat} (hj : j < cs.length) (hn : nextC (ss.drop (j + 1)) (cs.drop (j + 1)) = none) (hlt : ¬ cs[j] < ss[j]'(by rw [← fit_len hf]; exact hj)) :
    nextC (ss.drop j) (cs.drop j) = none := by
  have hl := fit_len hf
  rw [List.drop_eq_getElem_cons (show j < ss.length by omega), List.drop_eq_getElem_cons hj]
  simp [nextC, hn, hlt]
theorem next_end {ss cs : List Int} (hf : fit ss cs) : nextC (ss.drop cs.length) (cs.drop cs.length) = none := by
  rw [List.drop_length, fit_len hf, List.drop_length]; rfl
theorem s_next (m : Model) (cells : List Int) (hf : fit m.sizes cells) (h5 : cells.length ≤ 5) (h3 : m.sizes.all qSize = true) (fu : Nat) (hfu : FU ≤ fu) :
    s_l6Next fu m cells = some (match nextC m.sizes cells with | some c => (c, true) | none => (List.replicate cells.length 0, false)) := by
  unfold s_l6Next
  have hl := fit_len hf
  have e0 : i64 ((cells.length : Int) - 1) = (cells.length : Int) - 1 := i64_id (by omega) (by omega)
  rw [app_le (by simp; omega), Option.bind_some]
  simp only [List.nil_append]
  rw [e0]
  obtain ⟨j, hj, hQ⟩ := while_inv (b := s_l6Next_b1 m) (fun n s => n = (s.2 + 1).toNat ∧ ∃ j : Nat, j ≤ cells.length ∧ s.1 = zfrom cells j ∧ s.2 = (j : Int) - 1 ∧ nextC (m.sizes.drop j) (cells.drop j) = none)
    (fun jn => (match jn with | .nx s => s.1 = List.replicate cells.length 0 ∧ nextC m.sizes cells = none | .out t => t.2 = true ∧ nextC m.sizes cells = some t.1))
    (by
      rintro n ⟨out, i⟩ ⟨hn, j, hj, ho, hi, hnone⟩
      simp only at ho hi hn
      subst ho hi
      cases j with
      | zero =>
        refine ⟨.brk (zfrom cells 0, ((0 : Nat) : Int) - 1), ?_, ?_, ?_⟩
        · simp only [s_l6Next_b1]
          rw [if_neg (by simp)]
        · simp [zfrom]
        · simpa using hnone
      | succ j =>
        have hjl : j < cells.length := by omega
        have hb := fit_get hf hjl
        have hs := sizes_get h3 (i := j) (by omega)
        have e : (((j + 1 : Nat) : Int) - 1) = (j : Int) := by omega
        rw [e]
        have hbody : s_l6Next_b1 m (zfrom cells (j + 1), (j : Int)) = if decide (cells[j] < m.sizes[j]'(by omega)) then some (.out ((zfrom cells (j + 1)).set j (cells[j] + 1), true)) else some (.cont (zfrom cells j, (j : Int) - 1)) := by
          simp only [s_l6Next_b1]
          rw [if_pos (by simp), idx_nat, zfrom_get cells j hjl, idx_lt (show j < m.sizes.length by omega)]
          simp only [Option.bind_some]
          rw [i64_id (n := cells[j] + 1) (by omega) (by omega), i64_id (n := (j : Int) - 1) (by omega) (by omega), Int.toNat_natCast, zfrom_zero cells j hjl]
        rw [hbody]
        by_cases hlt : cells[j] < m.sizes[j]'(by omega)
        · exact ⟨.out ((zfrom cells (j + 1)).set j (cells[j] + 1), true), by rw [if_pos (by simpa using hlt)], rfl, next_up hf hjl hnone hlt⟩
        · exact ⟨.cont (zfrom cells j, (j : Int) - 1), by rw [if_neg (by simpa using hlt)], ((j : Int) - 1 + 1).toNat,
            by omega,
            rfl, j, by omega, rfl, rfl, next_no hf hjl hnone hlt⟩)
    fu ((cells.length : Int) - 1 + 1).toNat (cells, (cells.length : Int) - 1) ⟨rfl, cells.length, Nat.le_refl _, by simp [zfrom], rfl, next_end hf⟩ (by unfold FU at hfu; omega)
  rw [hj]
  cases j with
  | nx s => obtain ⟨h1, h2⟩ := hQ; rw [h2, Option.bind_some]; simp only [h1]
  | out t => obtain ⟨h1, h2⟩ := hQ; rw [h2, Option.bind_some]; obtain ⟨a, b⟩ := t; simp only at h1; subst h1; rfl
theorem i_step {τ : Type} (sizes cells : List Int) (hf : fit sizes cells) (h5 : cells.length ≤ 1000) (fu : Nat) (hfu : FU ≤ fu) {b : (List Int × Int) → Option (Lo (List Int × Int) τ)}
    (hb : ∀ c i, b (c, i) = (if decide (i ≥ 0) then ((idx c i).bind fun x => (idx sizes i).bind fun y => some (x == y)) else some false).bind fun q => if q then ((idx c i).bind fun x => some (.cont ((c.set (Int.toNat i) 0), i64 (i - 1)))) else (some (.brk (c, i)))) :
    ∃ j : Nat, j ≤ cells.length ∧ whileL b fu (cells, i64 ((cells.length : Int) - 1)) = some (.nx (zfrom cells j, (j : Int) - 1)) ∧ (j = 0 → nextC sizes cells = none) ∧
      (∀ k, j = k + 1 → ∃ hk : k < cells.length, nextC sizes cells = some ((zfrom cells (k + 1)).set k (cells[k] + 1))) := by
  have hl := fit_len hf
  have e0 : i64 ((cells.length : Int) - 1) = (cells.length : Int) - 1 := i64_id (by omega) (by omega)
  rw [e0]
  obtain ⟨jn, hj, hQ⟩ := while_inv (b := b) (fun n s => n = (s.2 + 1).toNat ∧ ∃ j : Nat, j ≤ cells.length ∧ s.1 = zfrom cells j ∧ s.2 = (j : Int) - 1 ∧ nextC (sizes.drop j) (cells.drop j) = none)
    (fun jn => ∃ j : Nat, j ≤ cells.length ∧ jn = .nx (zfrom cells j, (j : Int) - 1) ∧ (j = 0 → nextC sizes cells = none) ∧ (∀ k, j = k + 1 → ∃ hk : k < cells.length, nextC sizes cells = some ((zfrom cells (k + 1)).set k (cells[k] + 1))))
    (by
      rintro n ⟨out, i⟩ ⟨hn, j, hj, ho, hi, hnone⟩
      simp only at ho hi hn
      subst ho hi
      cases j with
      | zero =>
        refine ⟨.brk (zfrom cells 0, ((0 : Nat) : Int) - 1), ?_, 0, Nat.zero_le _, rfl, fun _ => by simpa using hnone, fun k hk => by omega⟩
        rw [hb, if_neg (by simp)]; rfl
      | succ j =>
        have hjl : j < cells.length := by omega
        have hbd := fit_get hf hjl
        have e : (((j + 1 : Nat) : Int) - 1) = (j : Int) := by omega
        rw [e]
        have hbody : b (zfrom cells (j + 1), (j : Int)) = if cells[j] == sizes[j]'(by omega) then some (.cont (zfrom cells j, (j : Int) - 1)) else some (.brk (zfrom cells (j + 1), (j : Int))) := by
          rw [hb, if_pos (by simp), idx_nat, zfrom_get cells j hjl, idx_lt (show j < sizes.length by omega)]
          simp only [Option.bind_some]
          rw [i64_id (n := (j : Int) - 1) (by omega) (by omega), Int.toNat_natCast, zfrom_zero cells j hjl]
        rw [hbody]
        by_cases he : cells[j] = sizes[j]'(by omega)
        · exact ⟨.cont (zfrom cells j, (j : Int) - 1), by rw [if_pos (by simpa using he)], ((j : Int) - 1 + 1).toNat, by omega, rfl, j, by omega, rfl, rfl, next_no hf hjl hnone (by omega)⟩
        · refine ⟨.brk (zfrom cells (j + 1), (j : Int)), by rw [if_neg (by simpa using he)], j + 1, by omega, by rw [e], fun h => by omega, fun k hk => ?_⟩
          obtain rfl : j = k := by omega
          exact ⟨hjl, next_up hf hjl hnone (by omega)⟩)
    fu ((cells.length : Int) - 1 + 1).toNat (cells, (cells.length : Int) - 1) ⟨rfl, cells.length, Nat.le_refl _, by simp [zfrom], rfl, next_end hf⟩ (by unfold FU at hfu; omega)
  obtain ⟨j, h1, rfl, h2, h3⟩ := hQ
  exact ⟨j, h1, hj, h2, h3⟩
def prodS : List Int → Nat
  | [] => 1
  | s :: ss => (s.toNat + 1) * prodS ss
def rem : List Int → List Int → Nat
  | s :: ss, c :: cs => (s - c).toNat * prodS ss + rem ss cs
  | _, _ => 0
theorem prodS_pos : ∀ ss, 0 < prodS ss
  | [] => Nat.one_pos
  | s :: ss => Nat.mul_pos (Nat.succ_pos _) (prodS_pos ss)
theorem fit_zeros : ∀ (ss : List Int), (∀ s ∈ ss, 0 ≤ s) → fit ss (List.replicate ss.length 0) ∧ rem ss (List.replicate ss.length 0) + 1 = prodS ss
  | [], _ => ⟨trivial, rfl⟩
  | s :: ss, h => by
    obtain ⟨h1, h2⟩ := fit_zeros ss fun x hx => h x (by simp [hx])
    have hs := h s (by simp)
    refine ⟨⟨⟨Int.le_refl _, hs⟩, h1⟩, ?_⟩
    show (s - 0).toNat * prodS ss + rem ss (List.replicate ss.length 0) + 1 = (s.toNat + 1) * prodS ss
    rw [Nat.add_mul, Int.sub_zero]; omega
theorem fit_nonneg : ∀ {ss cs : List Int}, fit ss cs → ∀ s ∈ ss, 0 ≤ s
  | [], _, _, s, hs => by simp at hs
  | s :: ss, [], h, _, _ => by simp [fit] at h
  | s :: ss, c :: cs, h, x, hx => by
    rcases List.mem_cons.1 hx with rfl | hx
    · have := h.1; omega
    · exact fit_nonneg h.2 x hx
theorem next_none : ∀ {ss cs : List Int}, fit ss cs → nextC ss cs = none → rem ss cs = 0
  | [], [], _, _ => rfl
  | [], _ :: _, h, _ => by simp [fit] at h
  | s :: ss, [], h, _ => by simp [fit] at h
  | s :: ss, c :: cs, h, hn => by
    obtain ⟨h0, h1⟩ := h
    unfold nextC at hn
    cases hm : nextC ss cs with
    | some t => rw [hm] at hn; simp at hn
    | none =>
      rw [hm] at hn
      simp at hn
      have := next_none h1 hm
      show (s - c).toNat * prodS ss + rem ss cs = 0
      rw [this, show (s - c).toNat = 0 from by omega]; simp
theorem next_some : ∀ {ss cs t : List Int}, fit ss cs → nextC ss cs = some t → fit ss t ∧ rem ss cs = rem ss t + 1
  | [], [], _, _, hn => by simp [nextC] at hn
  | [], _ :: _, _, h, _ => by simp [fit] at h
  | s :: ss, [], _, h, _ => by simp [fit] at h
  | s :: ss, c :: cs, t, h, hn => by
    obtain ⟨h0, h1⟩ := h
    unfold nextC at hn
    cases hm : nextC ss cs with
    | some t' =>
      rw [hm] at hn
      simp at hn
      subst hn
      obtain ⟨h2, h3⟩ := next_some h1 hm
      refine ⟨⟨h0, h2⟩, ?_⟩
      show (s - c).toNat * prodS ss + rem ss cs = (s - c).toNat * prodS ss + rem ss t' + 1
      omega
    | none =>
      rw [hm] at hn
      simp only at hn
      split at hn
      · rename_i hlt
        injection hn with hn
        subst hn
        have hz := fit_zeros ss (fit_nonneg h1)
        have hl := fit_len h1
        rw [← hl] at hz
        refine ⟨⟨⟨by omega, by omega⟩, hz.1⟩, ?_⟩
        have hr := next_none h1 hm
        show (s - c).toNat * prodS ss + rem ss cs = (s - (c + 1)).toNat * prodS ss + rem ss (List.replicate cs.length 0) + 1
        have h2 := hz.2
        rw [hr, show (s - c).toNat = (s - (c + 1)).toNat + 1 from by omega, Nat.add_mul]
        omega
      · cases hn
theorem prodS_bound : ∀ (ss : List Int), ss.all qSize = true → prodS ss ≤ 4 ^ ss.length
  | [], _ => by simp [prodS]
  | s :: ss, h => by
    rw [List.all_cons, Bool.and_eq_true] at h
    have h1 := qSize_iff.1 h.1
    have h2 := prodS_bound ss h.2
    show (s.toNat + 1) * prodS ss ≤ 4 ^ (ss.length + 1)
    rw [Nat.pow_succ, Nat.mul_comm (4 ^ ss.length)]
    exact Nat.mul_le_mul (by omega) h2
theorem rem_lt : ∀ {ss cs : List Int}, fit ss cs → rem ss cs < prodS ss
  | [], [], _ => by simp [rem, prodS]
  | [], _ :: _, h => by simp [fit] at h
  | s :: ss, [], h => by simp [fit] at h
  | s :: ss, c :: cs, h => by
    have h1 := rem_lt h.2
    have h0 := h.1
    show (s - c).toNat * prodS ss + rem ss cs < (s.toNat + 1) * prodS ss
    have : (s - c).toNat * prodS ss ≤ s.toNat * prodS ss := Nat.mul_le_mul_right _ (by omega)
    rw [Nat.add_mul]; omega
theorem rem_small {ss cs : List Int} (hf : fit ss cs) (h3 : ss.all qSize = true) (h5 : ss.length ≤ 5) : rem ss cs < 1024 := by
  have h1 := rem_lt hf
  have h2 := prodS_bound ss h3
  have h4 : 4 ^ ss.length ≤ 4 ^ 5 := Nat.pow_le_pow_right (by omega) h5
  omega
def enumFrom (ss : List Int) : Nat → List Int → List (List Int)
  | 0, _ => []
  | k + 1, cs => cs :: (match nextC ss cs with | some t => enumFrom ss k t | none => [])
def enumC (ss cs : List Int) : List (List Int) := enumFrom ss (rem ss cs + 1) cs
theorem enum_some {ss cs t : List Int} (hf : fit ss cs) (h : nextC ss cs = some t) : enumC ss cs = cs :: enumC ss t := by
  have h2 := (next_some hf h).2
  unfold enumC
  rw [enumFrom, h, h2]
theorem enum_none {ss cs : List Int} (hf : fit ss cs) (h : nextC ss cs = none) : enumC ss cs = [cs] := by
  unfold enumC
  rw [enumFrom, h]
theorem enum_len : ∀ (k : Nat) {ss cs : List Int}, rem ss cs = k → fit ss cs → (enumC ss cs).length = k + 1 := by
  intro k
  induction k with
  | zero =>
    intro ss cs hk hf
    cases h : nextC ss cs with
    | none => rw [enum_none hf h]; rfl
    | some t => have := (next_some hf h).2; omega
  | succ k ih =>
    intro ss cs hk hf
    cases h : nextC ss cs with
    | none => have := next_none hf h; omega
    | some t =>
      have := next_some hf h
      rw [enum_some hf h, List.length_cons, ih (by omega) this.1]
def countFrom (m : Model) (cs : List Int) : Nat := (enumC m.sizes cs).countP (solves m)
theorem count_some {m : Model} {cs t : List Int} (hf : fit m.sizes cs) (h : nextC m.sizes cs = some t) : countFrom m cs = (if solves m cs then 1 else 0) + countFrom m t := by
  unfold countFrom
  rw [enum_some hf h, List.countP_cons]
  omega
theorem count_none {m : Model} {cs : List Int} (hf : fit m.sizes cs) (h : nextC m.sizes cs = none) : countFrom m cs = (if solves m cs then 1 else 0) := by
  unfold countFrom
  rw [enum_none hf h, List.countP_cons]
  simp
def zeros (m : Model) : List Int := List.replicate m.sizes.length 0
def countModel (m : Model) : Nat := if okModel m then countFrom m (zeros m) else 0
theorem okModel_zeros {m : Model} (h : okModel m = true) : fit m.sizes (zeros m) := (fit_zeros m.sizes fun s hs => by
  have := List.all_eq_true.1 (okModel_parts h).2.2.1 s hs
  exact (qSize_iff.1 this).1).1
theorem countFrom_le {m : Model} {cs : List Int} (hf : fit m.sizes cs) : countFrom m cs ≤ rem m.sizes cs + 1 := by
  unfold countFrom
  rw [← enum_len _ rfl hf]
  exact List.countP_le_length
theorem clone_int (xs : List Int) (h : xs.length ≤ 4294967296) : slices_Clone_int xs = some xs := by
  unfold slices_Clone_int
  rw [app_le (by simpa using h)]
  rfl
theorem i_count (m : Model) (h : smallM m) (fu : Nat) (hfu : FU ≤ fu) : i_CountModel fu m = some (countModel m : Int) := by
  unfold i_CountModel countModel
  rw [i_model m h, Option.bind_some]
  cases hok : okModel m with
  | false => rfl
  | true =>
    obtain ⟨h1, h5, ha, _⟩ := okModel_parts hok
    have hz := okModel_zeros hok
    rw [mkN_le _ (by omega)]
    simp only [Bool.not_true, ite_false', Option.bind_some, if_true]
    unfold i_CountModel_i1
    rw [clone_int _ (by simp; omega), Option.bind_some]
    obtain ⟨j, hj, hQ⟩ := while_inv (b := i_CountModel_b2 fu m) (fun k s => ∃ n : Nat, s.2 = (n : Int) ∧ n ≤ 2000 ∧ fit m.sizes s.1 ∧ k = rem m.sizes s.1 ∧ n + countFrom m s.1 = countFrom m (zeros m))
      (fun j => j = .out (countFrom m (zeros m) : Int))
      (by
        rintro k ⟨cs, n0⟩ ⟨n, hn, hn2, hf, rfl, ht⟩
        simp only at hn hf ht
        subst hn
        have hr := rem_small hf ha h5
        have hle := countFrom_le hz
        have hrz := rem_small hz ha h5
        have hl := fit_len hf
        have hsol := i_solves h hok (cellsIn_fit.2 hf)
        obtain ⟨j, hjl, hw, hj0, hjs⟩ := i_step m.sizes cs hf (by omega) fu hfu (b := i_CountModel_b4 m) (fun _ _ => rfl)
        have hi3 : i_CountModel_i3 m cs (n : Int) = some (true, ((n + if solves m cs then 1 else 0 : Nat) : Int)) := by
          unfold i_CountModel_i3
          rw [hsol, Option.bind_some]
          cases solves m cs with
          | true => simp only [if_true, Option.bind_some]; rw [i64_id (by omega) (by omega)]; rfl
          | false => simp only [ite_false', Option.bind_some]; rfl
        have hbody : i_CountModel_b2 fu m (cs, (n : Int)) = (if decide (((j : Int) - 1) < 0) then (some (.out ((n + if solves m cs then 1 else 0 : Nat) : Int))) else ((idx (zfrom cs j) ((j : Int) - 1)).bind fun x => some (.cont (((zfrom cs j).set (Int.toNat ((j : Int) - 1)) (i64 (x + 1))), ((n + if solves m cs then 1 else 0 : Nat) : Int))))) := by
          show (i_CountModel_i3 m cs (n : Int)).bind _ = _
          rw [hi3, Option.bind_some]
          simp only [if_true]
          rw [hw, Option.bind_some]
        rw [hbody]
        cases j with
        | zero =>
          have hcs := count_none hf (hj0 rfl)
          refine ⟨_, by rw [if_pos (by simp)], ?_⟩
          show Jn.out _ = _
          congr 2; omega
        | succ k =>
          obtain ⟨hk, hnx⟩ := hjs k rfl
          have hcs := count_some hf hnx
          obtain ⟨hft, hrt⟩ := next_some hf hnx
          have hb := fit_get hf hk
          have hs := sizes_get ha (i := k) (by omega)
          have e : (((k + 1 : Nat) : Int) - 1) = (k : Int) := by omega
          rw [e, if_neg (by simp), idx_nat, zfrom_get cs k hk, Option.bind_some, i64_id (by omega) (by omega), Int.toNat_natCast]
          refine ⟨_, rfl, rem m.sizes ((zfrom cs (k + 1)).set k (cs[k] + 1)), ?_, n + (if solves m cs then 1 else 0), rfl, ?_, hft, rfl, ?_⟩
          · show _ < rem m.sizes cs
            omega
          · have : n + (if solves m cs then 1 else 0) ≤ countFrom m (zeros m) := by omega
            omega
          · show n + (if solves m cs then 1 else 0) + countFrom m ((zfrom cs (k + 1)).set k (cs[k] + 1)) = _
            omega)
      fu (rem m.sizes (zeros m)) (zeros m, 0) ⟨0, rfl, by omega, hz, rfl, Nat.zero_add _⟩ (by have := rem_small hz ha h5; unfold FU at hfu; omega)
    have hj' : whileL (i_CountModel_b2 fu m) fu (List.replicate m.sizes.length 0, 0) = some j := hj
    rw [hj', hQ]
    rfl
end Go.L
namespace Go.L
open Go Go.E
set_option linter.unusedVariables false
set_option linter.unusedSimpArgs false
set_option maxRecDepth 100000
theorem small_s {m : Model} (h : sModel m) : smallM m := by
  obtain ⟨h1, h2, h3⟩ := h
  refine ⟨by unfold sInts at h1; omega, by omega, fun r hr => ?_⟩
  obtain ⟨k1, k2, k3, k4⟩ := h3 r hr
  unfold sInts at k1 k2
  exact ⟨by omega, by omega, by omega, fun x hx => by have := k4 x hx; unfold sInts at this; omega⟩
theorem gsum_mono {m : Model} (ha : m.sizes.all qSize = true) (c : Nat) : ∀ k, c + k ≤ m.sizes.length → gsum (m.sizes.take c) ≤ gsum (m.sizes.take (c + k))
  | 0, _ => Int.le_refl _
  | k + 1, hk => by
    have := gsum_mono ha c k (by omega)
    have hb := sizes_get ha (i := c + k) (by omega)
    have hg2 := gsum_next m.sizes (c + k) (by omega)
    rw [← Nat.add_assoc]
    omega
theorem bv_lt {m : Model} (ha : m.sizes.all qSize = true) {c d : Nat} (hcd : c < d) (hd : d < m.sizes.length) {v u : Int} (hv : v ≤ m.sizes[c]'(by omega)) (hu : 0 ≤ u) : boolVar m c v < boolVar m d u := by
  unfold boolVar
  have h1 := gsum_next m.sizes c (by omega)
  have h2 := gsum_mono ha (c + 1) (d - (c + 1)) (by omega)
  rw [show c + 1 + (d - (c + 1)) = d from by omega] at h2
  omega
theorem bv_inj {m : Model} (ha : m.sizes.all qSize = true) {c d : Nat} (hc : c < m.sizes.length) (hd : d < m.sizes.length) {v u : Int} (hv0 : 0 ≤ v) (hv : v ≤ m.sizes[c]) (hu0 : 0 ≤ u) (hu : u ≤ m.sizes[d]) (h : boolVar m c v = boolVar m d u) : c = d ∧ v = u := by
  rcases Nat.lt_trichotomy c d with hlt | heq | hgt
  · have := bv_lt ha hlt hd hv hu0; omega
  · subst heq; unfold boolVar at h; exact ⟨rfl, by omega⟩
  · have := bv_lt ha hgt hc hu hv0; omega
end Go.L
namespace Go.L
open Go Go.E
set_option linter.unusedVariables false
set_option linter.unusedSimpArgs false
set_option maxRecDepth 100000
def encL (m : Model) (cells : List Int) : Nat → List Bool
  | 0 => List.replicate 12 false
  | i + 1 => (encL m cells i).set (boolVar m i (cells.getD i 0) - 1).toNat true
theorem encL_len (m : Model) (cells : List Int) : ∀ i, (encL m cells i).length = 12
  | 0 => by simp [encL]
  | i + 1 => by rw [encL, List.length_set, encL_len m cells i]
def encode (m : Model) (cells : List Int) : List Bool × Bool := if okCells m cells then (encL m cells cells.length, true) else ([], false)
theorem cell_get {m : Model} {cells : List Int} (hc : cellsIn m cells = true) {i : Nat} {x : Int} (hx : cells[i]? = some x) : ∃ hi : i < m.sizes.length, cells.getD i 0 = x ∧ 0 ≤ x ∧ x ≤ m.sizes[i] := by
  obtain ⟨hl, h⟩ := cellsIn_iff.1 hc
  have hi := (List.getElem?_eq_some_iff.1 hx).1
  have hi2 : i < m.sizes.length := by omega
  have h2 := h i x hx
  refine ⟨hi2, by simp [List.getD_eq_getElem?_getD, hx], h2.1, ?_⟩
  have := h2.2
  simpa [List.getD_eq_getElem?_getD, hi2] using this
theorem enc_step {m : Model} {cells : List Int} (hok : okModel m = true) (hc : cellsIn m cells = true) {i : Nat} {x : Int} (hx : cells[i]? = some x) :
    (idx (encL m cells i) (i64 (boolVar m i x - 1))).bind (fun _ => some (Lo.cont ((encL m cells i).set (Int.toNat (i64 (boolVar m i x - 1))) true))) = (some (Lo.cont (encL m cells (i + 1))) : Option (Lo (List Bool) (List Bool × Bool))) := by
  obtain ⟨hi, hg, h0, h1⟩ := cell_get hc hx
  have hb := boolVar_range hok hi ⟨h0, h1⟩
  rw [i64_id (by omega) (by omega), idx_get (by omega) (by rw [encL_len]; omega), Option.bind_some]
  rw [encL, hg]
theorem i_encode (m : Model) (h : smallM m) (cells : List Int) : i_EncodeCells m cells = some (encode m cells) := by
  unfold i_EncodeCells encode
  rw [i_cells m h, Option.bind_some]
  cases hc : okCells m cells with
  | false => rfl
  | true =>
    obtain ⟨hok, hci⟩ := okCells_parts hc
    obtain ⟨h1, h5, ha, _⟩ := okModel_parts hok
    have hl := range_to (b := i_EncodeCells_b1 m) (fun i => encL m cells i) cells (by
      intro i x hx
      obtain ⟨hi, hg, h0, h1⟩ := cell_get hci hx
      have hs := sizes_get ha hi
      show (i_Model_boolVar m (i : Int) x).bind _ = _
      rw [i_var m i x (by omega) h5 ha ⟨h0, by omega⟩, Option.bind_some]
      exact enc_step hok hci hx)
    simp only [Bool.not_true, Bool.false_eq_true, if_false, if_true]
    have hm : mkN (12 : Int) false = some (List.replicate 12 false) := mkN_le (n := 12) false (by omega)
    rw [hm, Option.bind_some]
    show ((rangeL (i_EncodeCells_b1 m) cells 0 (encL m cells 0)).bind _) = _
    rw [hl]; rfl
def isOn (m : Model) (values : List Bool) (c v : Nat) : Bool := values.getD (boolVar m c v - 1).toNat false
def onTo (m : Model) (values : List Bool) (c : Nat) (k : Nat) : List Int := ((List.range k).filter (isOn m values c)).map (fun (v : Nat) => (v : Int))
def onAll (m : Model) (values : List Bool) (c : Nat) : List Int := onTo m values c ((m.sizes.getD c 0).toNat + 1)
theorem i_varsOf {m : Model} (hok : okModel m = true) {i : Nat} {x : Int} (hx : m.sizes[i]? = some x) : i_Model_varsOf m (i : Int) = some ((List.range (x.toNat + 1)).map fun (v : Nat) => boolVar m i (v : Int)) := by
  obtain ⟨h1, h5, ha, _⟩ := okModel_parts hok
  have hi := (List.getElem?_eq_some_iff.1 hx).1
  have hxe : m.sizes[i] = x := (List.getElem?_eq_some_iff.1 hx).2
  have hs := sizes_get ha hi
  unfold i_Model_varsOf
  rw [idx_lt hi, hxe, Option.bind_some, i64_id (by omega) (by omega)]
  have hk : cntF 0 (x + 1) = some (x.toNat + 1) := by rw [cntF_of (by omega) (by omega)]; congr 1; omega
  rw [hk, Option.bind_some]
  have h := count_to (b := i_Model_varsOf_b1 m (i : Int)) (fun j => (List.range j).map fun (v : Nat) => boolVar m i (v : Int)) (x.toNat + 1) 0 (by
    intro j _ hj
    have hvar := i_var m i (j : Int) (by omega) h5 ha ⟨by omega, by omega⟩
    show (i_Model_boolVar m (i : Int) (j : Int)).bind _ = _
    rw [hvar, Option.bind_some, app_le (by simp; omega), List.range_succ, List.map_append]
    rfl)
  rw [Nat.zero_add] at h
  have e0 : (List.range 0).map (fun (v : Nat) => boolVar m i (v : Int)) = [] := rfl
  rw [e0] at h
  rw [h]; rfl
end Go.L
namespace Go.L
open Go Go.E
set_option linter.unusedVariables false
set_option linter.unusedSimpArgs false
set_option maxRecDepth 100000
theorem encL_get (m : Model) (cells : List Int) (p : Nat) (hp : p < 12) : ∀ n, (encL m cells n).getD p false = true ↔ ∃ i, i < n ∧ (boolVar m i (cells.getD i 0) - 1).toNat = p
  | 0 => by
    rw [encL, List.getD_eq_getElem?_getD, List.getElem?_replicate, if_pos hp]
    constructor
    · intro h; cases h
    · rintro ⟨i, hi, _⟩; omega
  | n + 1 => by
    have ih := encL_get m cells p hp n
    rw [encL, List.getD_eq_getElem?_getD, List.getElem?_set]
    rw [List.getD_eq_getElem?_getD] at ih
    by_cases e : (boolVar m n (cells.getD n 0) - 1).toNat = p
    · rw [if_pos e, if_pos (by rw [encL_len]; omega)]
      exact ⟨fun _ => ⟨n, by omega, e⟩, fun _ => rfl⟩
    · rw [if_neg e, ih]
      constructor
      · rintro ⟨i, hi, h⟩; exact ⟨i, by omega, h⟩
      · rintro ⟨i, hi, h⟩
        refine ⟨i, ?_, h⟩
        by_cases en : i = n
        · subst en; exact absurd h e
        · omega
end Go.L
namespace Go.L
open Go Go.E
set_option linter.unusedVariables false
set_option linter.unusedSimpArgs false
set_option maxRecDepth 100000
def firstN (m : Model) : Nat → List Int → Option (List Int)
  | 0, _ => none
  | k + 1, cs => if solves m cs then some cs else match nextC m.sizes cs with | some t => firstN m k t | none => none
def first (m : Model) (cs : List Int) : Option (List Int) := firstN m (rem m.sizes cs + 1) cs
def nextModel (m : Model) (cells : List Int) : List Int × Bool := if okCells m cells then (match first m cells with | some t => (t, true) | none => ([], false)) else ([], false)
theorem first_yes {m : Model} {cs : List Int} (h : solves m cs = true) : first m cs = some cs := by unfold first; rw [firstN, if_pos h]
theorem first_step {m : Model} {cs t : List Int} (hf : fit m.sizes cs) (h : solves m cs = false) (hn : nextC m.sizes cs = some t) : first m cs = first m t := by
  have := (next_some hf hn).2
  unfold first
  rw [firstN, if_neg (by simp [h]), hn, this]
theorem first_end {m : Model} {cs : List Int} (h : solves m cs = false) (hn : nextC m.sizes cs = none) : first m cs = none := by
  unfold first; rw [firstN, if_neg (by simp [h]), hn]
theorem firstN_spec (m : Model) : ∀ (k : Nat) (cs t : List Int), fit m.sizes cs → firstN m k cs = some t → fit m.sizes t ∧ solves m t = true ∧ rem m.sizes t ≤ rem m.sizes cs
  | 0, _, _, _, h => by cases h
  | k + 1, cs, t, hf, h => by
    rw [firstN] at h
    by_cases hs : solves m cs = true
    · rw [if_pos hs] at h
      injection h with h
      subst h
      exact ⟨hf, hs, Nat.le_refl _⟩
    · rw [if_neg hs] at h
      cases hn : nextC m.sizes cs with
      | none => rw [hn] at h; cases h
      | some u =>
        rw [hn] at h
        obtain ⟨h1, h2⟩ := next_some hf hn
        obtain ⟨a, b, c⟩ := firstN_spec m k u t h1 h
        exact ⟨a, b, by omega⟩
theorem i_nextModel (m : Model) (h : smallM m) (fu : Nat) (hfu : FU ≤ fu) (cells : List Int) (hcl : cells.length ≤ 1048576) : i_NextModel fu m cells = some (nextModel m cells) := by
  unfold i_NextModel nextModel
  rw [i_cells m h, Option.bind_some]
  cases hc : okCells m cells with
  | false => rfl
  | true =>
    obtain ⟨hok, hci⟩ := okCells_parts hc
    obtain ⟨h1, h5, ha, _⟩ := okModel_parts hok
    have hz := cellsIn_fit.1 hci
    have hlz := fit_len hz
    have hemp : ∀ cs : List Int, fit m.sizes cs → List.isEmpty cs = false := fun cs hf => by
      have := fit_len hf
      cases cs with
      | nil => simp at this; omega
      | cons _ _ => rfl
    simp only [Bool.not_true, Bool.false_eq_true, if_false, if_true]
    unfold i_NextModel_i1
    rw [clone_int _ (by omega), Option.bind_some, hemp cells hz]
    simp only [Bool.false_eq_true, if_false, Option.bind_some]
    obtain ⟨j, hj, hQ⟩ := while_inv (b := i_NextModel_b2 fu m) (fun k s => s.2 = [] ∧ fit m.sizes s.1 ∧ k = rem m.sizes s.1 ∧ first m s.1 = first m cells)
      (fun j => match j with | .nx s => first m cells = some s.2 ∧ List.isEmpty s.2 = false | .out t => first m cells = none ∧ t = [])
      (by
        rintro k ⟨cs, g⟩ ⟨hg, hf, rfl, ht⟩
        simp only at hg hf ht
        subst hg
        have hl := fit_len hf
        have hsol := i_solves h hok (cellsIn_fit.2 hf)
        cases hs : solves m cs with
        | true =>
          have hi3 : i_NextModel_i3 m cs [] = some (false, cs) := by
            unfold i_NextModel_i3
            rw [hsol, Option.bind_some, hs]
            simp only [if_true]
            rw [clone_int _ (by omega), Option.bind_some, hemp cs hf]
            simp [hemp cs hf]
          refine ⟨.brk (cs, cs), ?_, by rw [← ht, first_yes hs], hemp cs hf⟩
          show (i_NextModel_i3 m cs []).bind _ = _
          rw [hi3]; rfl
        | false =>
          have hi3 : i_NextModel_i3 m cs [] = some (true, []) := by
            unfold i_NextModel_i3
            rw [hsol, Option.bind_some, hs]
            rfl
          obtain ⟨j, hjl, hw, hj0, hjs⟩ := i_step m.sizes cs hf (by omega) fu hfu (b := i_NextModel_b4 m) (fun _ _ => rfl)
          have hbody : i_NextModel_b2 fu m (cs, []) = (if decide (((j : Int) - 1) < 0) then (some (.out [])) else ((idx (zfrom cs j) ((j : Int) - 1)).bind fun x => some (.cont (((zfrom cs j).set (Int.toNat ((j : Int) - 1)) (i64 (x + 1))), [])))) := by
            show (i_NextModel_i3 m cs []).bind _ = _
            rw [hi3, Option.bind_some]
            simp only [if_true]
            rw [hw, Option.bind_some]
          rw [hbody]
          cases j with
          | zero =>
            refine ⟨.out [], by rw [if_pos (by simp)], by rw [← ht, first_end hs (hj0 rfl)], rfl⟩
          | succ k =>
            obtain ⟨hk, hnx⟩ := hjs k rfl
            obtain ⟨hft, hrt⟩ := next_some hf hnx
            have hb := fit_get hf hk
            have hsz := sizes_get ha (i := k) (by omega)
            have e : (((k + 1 : Nat) : Int) - 1) = (k : Int) := by omega
            rw [e, if_neg (by simp), idx_nat, zfrom_get cs k hk, Option.bind_some, i64_id (by omega) (by omega), Int.toNat_natCast]
            exact ⟨_, rfl, rem m.sizes ((zfrom cs (k + 1)).set k (cs[k] + 1)), by show _ < rem m.sizes cs; omega, rfl, hft, rfl, by rw [← ht, first_step hf hs hnx]⟩)
      fu (rem m.sizes cells) (cells, []) ⟨rfl, hz, rfl, rfl⟩ (by have := rem_small hz ha (by omega); unfold FU at hfu; omega)
    rw [hj]
    cases j with
    | nx s => obtain ⟨a, b⟩ := s; simp only at hQ; obtain ⟨h1, h2⟩ := hQ; rw [h1]; simp [h2]
    | out t => simp only at hQ; obtain ⟨h1, h2⟩ := hQ; rw [h1, h2]; rfl
end Go.L
namespace Go.L
open Go Go.E
set_option linter.unusedVariables false
set_option linter.unusedSimpArgs false
set_option maxRecDepth 100000
def absI (n : Int) : Int := max n (-n)
def okT (t : Term) : Bool := (t.lit != 0 && decide (-12 ≤ t.lit) && decide (t.lit ≤ 12)) && (decide (1 ≤ t.coef) && decide (t.coef ≤ 1000))
def okTerms : Int → List Term → Bool
  | _, [] => true
  | b, t :: ts => (okT t && decide (b < absI t.lit)) && okTerms (absI t.lit) ts
def okB (b : Int) : Bool := decide (0 ≤ b) && decide (b ≤ 20000)
def okCon (c : Con) : Bool := okTerms 0 c.terms && okB c.bound
theorem i_valid_loop : ∀ (ts : List Term) (i : Nat) (b : Int), ∃ b', rangeL i_ConstraintValid_b1 ts i b = some (if okTerms b ts then .nx b' else .out false)
  | [], i, b => ⟨b, rfl⟩
  | t :: ts, i, b => by
    obtain ⟨b', h⟩ := i_valid_loop ts (i + 1) (absI t.lit)
    refine ⟨b', ?_⟩
    show (i_ConstraintValid_b1 i t b).bind _ = _
    have e : i_ConstraintValid_b1 i t b = some (if okT t && decide (b < absI t.lit) then .cont (absI t.lit) else .out false) := by
      unfold i_ConstraintValid_b1 i_isLiteral i_within i_variableOf okT absI
      by_cases h0 : t.lit = 0
      · simp [h0]
      by_cases h1 : -12 ≤ t.lit ∧ t.lit ≤ 12
      · rw [i64_id (n := -t.lit) (by omega) (by omega)]
        by_cases h2 : 1 ≤ t.coef ∧ t.coef ≤ 1000
        · by_cases h3 : b < max t.lit (-t.lit)
          · have : ¬ max t.lit (-t.lit) ≤ b := by omega
            simp [h0, h1.1, h1.2, h2.1, h2.2, h3, this]
          · have : max t.lit (-t.lit) ≤ b := by omega
            simp [h0, h1.1, h1.2, h2.1, h2.2, h3, this]
        · have h2' : (decide (1 ≤ t.coef) && decide (t.coef ≤ 1000)) = false := by simp; omega
          simp only [h2']
          simp [h0, h1.1, h1.2]
      · have h1' : (decide (-12 ≤ t.lit) && decide (t.lit ≤ 12)) = false := by simp; omega
        simp only [Bool.and_assoc, h1']
        simp [h0]
    rw [e, okTerms]
    cases okT t && decide (b < absI t.lit) with
    | true => simpa using h
    | false => rfl
theorem i_valid (c : Con) : i_ConstraintValid c = some (okCon c) := by
  unfold i_ConstraintValid okCon
  obtain ⟨b', h⟩ := i_valid_loop c.terms 0 0
  rw [h]
  cases okTerms 0 c.terms <;> simp [i_within, okB]
theorem s_abs (n : Int) (h1 : -9223372036854775807 ≤ n) (h2 : n ≤ 9223372036854775807) : s_l1Abs n = some (absI n) := by
  unfold s_l1Abs absI
  by_cases h : n < 0
  · rw [if_pos (by simpa using h), i64_id (by omega) (by omega)]; congr 1; omega
  · rw [if_neg (by simpa using h)]; congr 1; omega
theorem okT_lit {t : Term} (h : okT t = true) : t.lit ≠ 0 ∧ -12 ≤ t.lit ∧ t.lit ≤ 12 ∧ 1 ≤ t.coef ∧ t.coef ≤ 1000 := by
  unfold okT at h
  simp at h
  exact ⟨h.1.1.1, h.1.1.2, h.1.2, h.2.1, h.2.2⟩
theorem s_valid_loop (c : Con) (hl : c.terms.length ≤ ML) : ∀ (ts : List Term) (i : Nat) (b : Int), c.terms.drop i = ts → (i = 0 ∧ b = 0 ∨ ∃ t, 0 < i ∧ c.terms[i - 1]? = some t ∧ okT t = true ∧ b = absI t.lit) →
    rangeL (s_ConstraintValid_b1 c) ts i () = some (if okTerms b ts then .nx () else .out false)
  | [], i, b, _, _ => rfl
  | t :: ts, i, b, hd, hb => by
    show (s_ConstraintValid_b1 c i t ()).bind _ = _
    have e : s_ConstraintValid_b1 c i t () = some (if okT t && decide (b < absI t.lit) then .cont () else .out false) := by
      unfold s_ConstraintValid_b1 s_l1Lit
      by_cases hk : okT t = true
      · obtain ⟨h0, h1, h2, h3, h4⟩ := okT_lit hk
        have e1 : ((!((t.lit != 0) && decide (t.lit ≥ -12) && decide (t.lit ≤ 12)) || decide (t.coef < 1)) || decide (t.coef > 1000)) = false := by simp; omega
        simp only [Option.bind_some, e1, hk]
        have hpos : 0 < absI t.lit := by unfold absI; omega
        rcases hb with ⟨rfl, rfl⟩ | ⟨p, hi, hp, hpk, rfl⟩
        · simp [hpos]
        · obtain ⟨q0, q1, q2, _, _⟩ := okT_lit hpk
          have hil := (List.getElem?_eq_some_iff.1 hp).1
          unfold ML at hl
          have hi2 : decide ((i : Int) > 0) = true := by simpa using hi
          have e2 : idx c.terms (i64 ((i : Int) - 1)) = some p := by
            rw [i64_id (by omega) (by omega), show (i : Int) - 1 = ((i - 1 : Nat) : Int) by omega, idx_nat, hp]
          simp only [hi2, e2, Option.bind_some, s_abs p.lit (by omega) (by omega), s_abs t.lit (by omega) (by omega)]
          by_cases h5 : absI p.lit < absI t.lit
          · have : ¬ absI p.lit ≥ absI t.lit := by omega
            simp [h5, this]
          · have : absI p.lit ≥ absI t.lit := by omega
            simp [h5, this]
      · have hk' : okT t = false := by simpa using hk
        have e1 : ((!((t.lit != 0) && decide (t.lit ≥ -12) && decide (t.lit ≤ 12)) || decide (t.coef < 1)) || decide (t.coef > 1000)) = true := by
          cases hx : ((!((t.lit != 0) && decide (t.lit ≥ -12) && decide (t.lit ≤ 12)) || decide (t.coef < 1)) || decide (t.coef > 1000)) with
          | true => rfl
          | false =>
            exfalso
            apply hk
            unfold okT
            simp at hx ⊢
            omega
        simp only [Option.bind_some, e1, hk']
        rfl
    rw [e, okTerms]
    cases hok : okT t && decide (b < absI t.lit) with
    | true =>
      rw [Bool.and_eq_true] at hok
      simpa using s_valid_loop c hl ts (i + 1) (absI t.lit) (drop_next hd) (.inr ⟨t, by omega, by have := drop_idx hd; rw [idx_nat] at this; simpa using this, hok.1, rfl⟩)
    | false => rfl
theorem s_valid (c : Con) (hl : c.terms.length ≤ ML) : s_ConstraintValid c = some (okCon c) := by
  unfold s_ConstraintValid okCon
  rw [s_valid_loop c hl c.terms 0 0 rfl (.inl ⟨rfl, rfl⟩)]
  cases okTerms 0 c.terms <;> simp [okB]
end Go.L
namespace Go.L
open Go Go.E
set_option linter.unusedVariables false
set_option linter.unusedSimpArgs false
set_option maxRecDepth 100000
theorem okTerms_len : ∀ (ts : List Term) (b : Int), 0 ≤ b → okTerms b ts = true → (ts.length : Int) + b ≤ 12 ∨ ts = []
  | [], _, _, _ => .inr rfl
  | t :: ts, b, hb, h => by
    rw [okTerms, Bool.and_eq_true, Bool.and_eq_true] at h
    obtain ⟨⟨h1, h2⟩, h3⟩ := h
    obtain ⟨h0, l1, l2, _, _⟩ := okT_lit h1
    have h2 := of_decide_eq_true h2
    have ha : absI t.lit ≤ 12 := by unfold absI; omega
    left
    rcases okTerms_len ts (absI t.lit) (by omega) h3 with h | h
    · simp; omega
    · subst h; simp; omega
theorem okTerms_all : ∀ (ts : List Term) (b : Int), okTerms b ts = true → ∀ t ∈ ts, okT t = true
  | [], _, _, t, ht => by cases ht
  | t :: ts, b, h, u, hu => by
    rw [okTerms, Bool.and_eq_true, Bool.and_eq_true] at h
    rcases List.mem_cons.1 hu with rfl | hu
    · exact h.1.1
    · exact okTerms_all ts _ h.2 u hu
theorem okCon_parts {c : Con} (h : okCon c = true) : okTerms 0 c.terms = true ∧ c.terms.length ≤ 12 ∧ (∀ t ∈ c.terms, okT t = true) ∧ 0 ≤ c.bound ∧ c.bound ≤ 20000 := by
  unfold okCon okB at h
  simp at h
  refine ⟨h.1, ?_, okTerms_all _ _ h.1, h.2.1, h.2.2⟩
  rcases okTerms_len _ _ (Int.le_refl 0) h.1 with h | h
  · omega
  · rw [h]; simp
def okProb (list : List Con) : Bool := list.all okCon && decide ((list.length : Int) ≤ 400)
theorem i_contains (s : List Con) {p : Con → Option Bool} {q : Con → Bool} (hp : ∀ c ∈ s, p c = some (q c)) : slices_ContainsFunc_implConstraint s p = some (s.any q) := by
  unfold slices_ContainsFunc_implConstraint slices_IndexFunc_implConstraint
  obtain ⟨j, h1, h2⟩ := range_index (q := q) (b := slices_IndexFunc_implConstraint_b1 p) s (fun i x hx => by show (p x).bind _ = _; rw [hp x (List.mem_of_getElem? hx)]; show (if _ then _ else _) = _; cases q x <;> rfl)
  rw [h1]
  cases j with
  | nx u => simp only at h2; rw [h2]; rfl
  | out t => simp only at h2; rw [h2.2]; simp [h2.1]
theorem i_problem (list : List Con) : i_ProblemValid list = some (okProb list) := by
  unfold i_ProblemValid i_allValid okProb
  rw [i_contains list (q := fun c => !okCon c) fun c _ => by unfold i_allValid_1; rw [i_valid]; rfl]
  have e : list.any (fun c => !okCon c) = !list.all okCon := any_not_all _ _
  rw [e]
  cases h : decide ((list.length : Int) ≤ 400) <;> simp [h]
end Go.L
namespace Go.L
open Go Go.E
set_option linter.unusedVariables false
set_option linter.unusedSimpArgs false
set_option maxRecDepth 100000
def okP (p : List Int) : Prop := p.length = 12 ∧ ∀ x ∈ p, -1 ≤ x ∧ x ≤ 1
def stt (p : List Int) (l : Int) : Int := if l > 0 then p.getD (l - 1).toNat 0 else - p.getD (-l - 1).toNat 0
theorem okP_get {p : List Int} (hp : okP p) (k : Nat) (hk : k < 12) : p[k]? = some (p.getD k 0) ∧ -1 ≤ p.getD k 0 ∧ p.getD k 0 ≤ 1 := by
  have h : k < p.length := by rw [hp.1]; exact hk
  have e : p.getD k 0 = p[k] := by rw [List.getD_eq_getElem?_getD, List.getElem?_eq_getElem h]; rfl
  rw [e]
  exact ⟨List.getElem?_eq_getElem h, hp.2 _ (List.getElem_mem h)⟩
theorem idx_p {p : List Int} (hp : okP p) {k : Int} (h0 : 0 ≤ k) (h1 : k < 12) : idx p k = some (p.getD k.toNat 0) := by
  have := (okP_get hp k.toNat (by omega)).1
  obtain ⟨n, rfl⟩ : ∃ n : Nat, k = (n : Int) := ⟨k.toNat, by omega⟩
  rw [idx_nat]
  simpa using this
theorem stt_range {p : List Int} (hp : okP p) {l : Int} (h0 : l ≠ 0) (h1 : -12 ≤ l) (h2 : l ≤ 12) : -1 ≤ stt p l ∧ stt p l ≤ 1 := by
  unfold stt
  split
  · exact (okP_get hp _ (by omega)).2
  · have := (okP_get hp (-l - 1).toNat (by omega)).2; omega
theorem i_state {p : List Int} (hp : okP p) {l : Int} (h0 : l ≠ 0) (h1 : -12 ≤ l) (h2 : l ≤ 12) : i_under l p = some (stt p l) := by
  unfold i_under stt
  by_cases h : l < 0
  · have hr := (okP_get hp (-l - 1).toNat (by omega)).2
    rw [if_pos (by simpa using h), if_neg (by omega), i64_id (n := -l) (by omega) (by omega), i64_id (n := -l - 1) (by omega) (by omega), idx_p hp (by omega) (by omega), Option.bind_some, i64_id (by omega) (by omega)]
  · rw [if_neg (by simpa using h), if_pos (by omega), i64_id (by omega) (by omega), idx_p hp (by omega) (by omega)]; rfl
end Go.L
namespace Go.L
open Go Go.E
set_option linter.unusedVariables false
set_option linter.unusedSimpArgs false
set_option maxRecDepth 100000
def keepT (p : List Int) (ts : List Term) : Int := ts.foldl (fun n t => if stt p t.lit ≥ 0 then n + t.coef else n) 0
def slackC (c : Con) (p : List Int) : Int := -c.bound + keepT p c.terms
theorem keepT_snoc (p : List Int) (ts : List Term) (t : Term) : keepT p (ts ++ [t]) = if stt p t.lit ≥ 0 then keepT p ts + t.coef else keepT p ts := by simp [keepT, List.foldl_append]
theorem keepT_bound (p : List Int) : ∀ (ts : List Term), (∀ t ∈ ts, okT t = true) → 0 ≤ keepT p ts ∧ keepT p ts ≤ 1000 * ts.length := by
  intro ts
  have key : ∀ (ts : List Term) (n : Int), (∀ t ∈ ts, okT t = true) → n ≤ ts.foldl (fun n t => if stt p t.lit ≥ 0 then n + t.coef else n) n ∧ ts.foldl (fun n t => if stt p t.lit ≥ 0 then n + t.coef else n) n ≤ n + 1000 * ts.length := by
    intro ts
    induction ts with
    | nil => intro n _; simp
    | cons t ts ih =>
      intro n h
      obtain ⟨_, _, _, h3, h4⟩ := okT_lit (h t (by simp))
      simp only [List.foldl_cons, List.length_cons]
      split
      · have := ih (n + t.coef) fun u hu => h u (by simp [hu])
        omega
      · have := ih n fun u hu => h u (by simp [hu])
        omega
  intro h
  have := key ts 0 h
  unfold keepT
  omega
theorem slack_loop {τ : Type} {p : List Int} {b : Nat → Term → Int → Option (Lo Int τ)} (c : Con) (h : okCon c = true)
    (hb : ∀ i t n, okT t = true → b i t n = some (.cont (if stt p t.lit ≥ 0 then i64 (n + t.coef) else n))) :
    rangeL b c.terms 0 (i64 (-c.bound)) = some (.nx (slackC c p)) := by
  obtain ⟨_, h2, h3, h4, h5⟩ := okCon_parts h
  have := range_to (b := b) (fun i => -c.bound + keepT p (c.terms.take i)) c.terms (by
    intro i t ht
    have hi := (List.getElem?_eq_some_iff.1 ht).1
    have e : c.terms.take (i + 1) = c.terms.take i ++ [t] := by rw [List.take_add_one, ht]; rfl
    have h1 := keepT_bound p (c.terms.take i) fun u hu => h3 u (List.mem_of_mem_take hu)
    have hl : (c.terms.take i).length ≤ 12 := by simp; omega
    have hk := h3 t (List.mem_of_getElem? ht)
    obtain ⟨_, _, _, q1, q2⟩ := okT_lit hk
    rw [hb _ _ _ hk, e, keepT_snoc]
    split
    · rw [i64_id (by omega) (by omega)]; congr 2; omega
    · rfl)
  rw [i64_id (by omega) (by omega)]
  simpa [keepT, slackC] using this
theorem i_slack {c : Con} (h : okCon c = true) {p : List Int} (hp : okP p) : i_Constraint_slack c p = some (slackC c p) := by
  unfold i_Constraint_slack
  rw [slack_loop (b := i_Constraint_slack_b1 p) (p := p) c h fun i t n hk => by
    obtain ⟨h0, h1, h2, _, _⟩ := okT_lit hk
    show (i_under t.lit p).bind _ = _
    rw [i_state hp h0 h1 h2, Option.bind_some]
    by_cases hs : stt p t.lit ≥ 0 <;> simp [hs]]
  rfl
end Go.L
namespace Go.L
open Go Go.E
set_option linter.unusedVariables false
set_option linter.unusedSimpArgs false
set_option maxRecDepth 100000
def impT (p : List Int) (sl : Int) (t : Term) : Bool := (stt p t.lit == 0) && decide (t.coef > sl)
def impL (p : List Int) (sl : Int) (ts : List Term) : List Int := (ts.filter (impT p sl)).map (·.lit)
theorem impL_snoc (p : List Int) (sl : Int) (ts : List Term) (t : Term) : impL p sl (ts ++ [t]) = if impT p sl t then impL p sl ts ++ [t.lit] else impL p sl ts := by
  unfold impL
  rw [List.filter_append, List.map_append]
  cases h : impT p sl t <;> simp [h]
theorem impL_len (p : List Int) (sl : Int) (ts : List Term) : (impL p sl ts).length ≤ ts.length := by
  unfold impL
  rw [List.length_map]
  exact List.length_filter_le _ _
theorem i_implied {c : Con} (h : okCon c = true) {p : List Int} (hp : okP p) : i_Constraint_implied c p = some (impL p (slackC c p) c.terms) := by
  obtain ⟨_, h2, h3, _, _⟩ := okCon_parts h
  unfold i_Constraint_implied
  rw [i_slack h hp, Option.bind_some]
  have := range_to (b := i_Constraint_implied_b1 p (slackC c p)) (fun i => impL p (slackC c p) (c.terms.take i)) c.terms (by
    intro i t ht
    have e : c.terms.take (i + 1) = c.terms.take i ++ [t] := by rw [List.take_add_one, ht]; rfl
    have hk := h3 t (List.mem_of_getElem? ht)
    obtain ⟨h0, h1, h2', _, _⟩ := okT_lit hk
    have hl := impL_len p (slackC c p) (c.terms.take i)
    show (i_under t.lit p).bind _ = _
    rw [i_state hp h0 h1 h2', Option.bind_some, e, impL_snoc]
    have hl2 : (c.terms.take i).length ≤ 12 := by simp; omega
    rw [app_le (by simp; omega)]
    unfold impT
    cases hs : (stt p t.lit == 0) && decide (t.coef > slackC c p) <;> simp)
  have e0 : impL p (slackC c p) (c.terms.take 0) = [] := rfl
  rw [e0] at this
  rw [this]
  simp
end Go.L
namespace Go.L
open Go Go.E
set_option linter.unusedVariables false
set_option linter.unusedSimpArgs false
set_option maxRecDepth 100000
def asg (p : List Int) (l : Int) : List Int := if l > 0 then p.set (l - 1).toNat 1 else p.set (-l - 1).toNat (-1)
theorem asg_ok {p : List Int} (hp : okP p) (l : Int) : okP (asg p l) := by
  unfold asg
  split
  all_goals
    refine ⟨by rw [List.length_set]; exact hp.1, fun x hx => ?_⟩
    rcases List.mem_or_eq_of_mem_set hx with h | h
    · exact hp.2 x h
    · subst h; omega
def lit12 (l : Int) : Prop := l ≠ 0 ∧ -12 ≤ l ∧ l ≤ 12
def asgL (p : List Int) (ls : List Int) : List Int := ls.foldl asg p
theorem asgL_ok : ∀ (ls : List Int) {p : List Int}, okP p → okP (asgL p ls)
  | [], _, hp => hp
  | l :: ls, _, hp => asgL_ok ls (asg_ok hp l)
theorem asg_loop {τ : Type} {b : Nat → Int → (List Int × Bool) → Option (Lo (List Int × Bool) τ)} (hb : ∀ i l p m, okP p → lit12 l → b i l (p, m) = some (.cont (asg p l, true))) :
    ∀ (ls : List Int) (i : Nat) (p : List Int) (m : Bool), okP p → (∀ l ∈ ls, lit12 l) → rangeL b ls i (p, m) = some (.nx (asgL p ls, m || !ls.isEmpty))
  | [], i, p, m, _, _ => by simp [rangeL, asgL]
  | l :: ls, i, p, m, hp, hl => by
    show (b i l (p, m)).bind _ = _
    rw [hb i l p m hp (hl l (by simp))]
    show rangeL b ls (i + 1) (asg p l, true) = _
    rw [asg_loop hb ls (i + 1) _ true (asg_ok hp l) fun x hx => hl x (by simp [hx])]
    simp [asgL]
theorem i_asgs {p : List Int} (hp : okP p) (m : Bool) (ls : List Int) (hl : ∀ l ∈ ls, lit12 l) : rangeL i_propagate_b3 ls 0 (p, m) = some (.nx (asgL p ls, m || !ls.isEmpty)) :=
  asg_loop (fun i l p m hp h => by
    obtain ⟨h0, h1, h2⟩ := h
    rw [i_propagate_b3]; unfold asg
    by_cases h : l > 0
    · rw [if_pos h, if_pos (decide_eq_true h), i64_id (by omega) (by omega), idx_p hp (by omega) (by omega)]; rfl
    · rw [if_neg h, if_neg (by simpa using h), i64_id (n := -l) (by omega) (by omega), i64_id (n := -l - 1) (by omega) (by omega), idx_p hp (by omega) (by omega)]; rfl) ls 0 p m hp hl
end Go.L
namespace Go.L
open Go Go.E
set_option linter.unusedVariables false
set_option linter.unusedSimpArgs false
set_option maxRecDepth 100000
def sumR (f : Term → Int) : List Term → Int
  | [] => 0
  | t :: ts => f t + sumR f ts
theorem foldl_sumR (f : Term → Int) : ∀ (ts : List Term) (n : Int), ts.foldl (fun n t => n + f t) n = n + sumR f ts
  | [], n => by simp [sumR]
  | t :: ts, n => by rw [List.foldl_cons, foldl_sumR f ts, sumR]; omega
theorem sumR_le {f g : Term → Int} : ∀ (ts : List Term), (∀ t ∈ ts, f t ≤ g t) → sumR f ts ≤ sumR g ts
  | [], _ => Int.le_refl _
  | t :: ts, h => by
    have h1 := h t (by simp)
    have h2 := sumR_le (f := f) (g := g) ts fun u hu => h u (by simp [hu])
    simp only [sumR]; omega
theorem sumR_le_mem {f g : Term → Int} (u : Term) (d : Int) (hd : f u + d ≤ g u) : ∀ (ts : List Term), u ∈ ts → (∀ t ∈ ts, f t ≤ g t) → sumR f ts + d ≤ sumR g ts
  | [], hu, _ => by cases hu
  | t :: ts, hu, h => by
    have h1 := h t (by simp)
    have h2 := sumR_le (f := f) (g := g) ts fun u hu => h u (by simp [hu])
    simp only [sumR]
    rcases List.mem_cons.1 hu with e | hu
    · rw [← e] at *; omega
    · have := sumR_le_mem (f := f) (g := g) u d hd ts hu fun u hu => h u (by simp [hu]); omega
theorem keepT_sum (p : List Int) (ts : List Term) : keepT p ts = sumR (fun t => if stt p t.lit ≥ 0 then t.coef else 0) ts := by
  have := foldl_sumR (fun t => if stt p t.lit ≥ 0 then t.coef else 0) ts 0
  rw [Int.zero_add] at this
  rw [← this, keepT]
  congr 1
  funext n t
  split <;> omega
def LeP (p q : List Int) : Prop := ∀ k, k < 12 → p.getD k 0 ≠ 0 → q.getD k 0 = p.getD k 0
theorem leP_stt {p q : List Int} (h : LeP p q) {l : Int} (hl : lit12 l) (hn : stt p l ≠ 0) : stt q l = stt p l := by
  obtain ⟨h0, h1, h2⟩ := hl
  unfold stt at *
  split
  · rename_i hp
    rw [if_pos hp] at hn
    exact h _ (by omega) hn
  · rename_i hp
    rw [if_neg hp] at hn
    rw [h _ (by omega) (by omega)]
theorem okT_lit12 {t : Term} (h : okT t = true) : lit12 t.lit := ⟨(okT_lit h).1, (okT_lit h).2.1, (okT_lit h).2.2.1⟩
theorem getD_set (p : List Int) (i k : Nat) (x : Int) (hk : k < p.length) : (p.set i x).getD k 0 = if i = k then x else p.getD k 0 := by
  rw [List.getD_eq_getElem?_getD, List.getElem?_set, List.getD_eq_getElem?_getD]
  split
  · rename_i h; subst h; simp [hk]
  · rfl
theorem asg_leP {p q : List Int} (hp : okP p) (h : LeP p q) {l : Int} (hl : lit12 l) (hq : stt q l = 1) : LeP (asg p l) q := by
  obtain ⟨h0, h1, h2⟩ := hl
  intro k hk hn
  unfold asg stt at *
  split at hq
  · rename_i hp'
    rw [if_pos hp', getD_set _ _ _ _ (by rw [hp.1]; exact hk)] at *
    split
    · rename_i e; subst e; exact hq
    · rename_i e; rw [if_neg e] at hn; exact h k hk hn
  · rename_i hp'
    rw [if_neg hp', getD_set _ _ _ _ (by rw [hp.1]; exact hk)] at *
    split
    · rename_i e; subst e; omega
    · rename_i e; rw [if_neg e] at hn; exact h k hk hn
theorem slack_mono {p q : List Int} (hp : okP p) (hq : okP q) (h : LeP p q) {c : Con} (hc : okCon c = true) : slackC c q ≤ slackC c p := by
  unfold slackC
  rw [keepT_sum, keepT_sum]
  have := sumR_le (f := fun t => if stt q t.lit ≥ 0 then t.coef else 0) (g := fun t => if stt p t.lit ≥ 0 then t.coef else 0) c.terms fun t ht => by
    have hk := (okCon_parts hc).2.2.1 t ht
    have hl := okT_lit12 hk
    have h3 := (okT_lit hk).2.2.2.1
    by_cases h0 : stt p t.lit = 0
    · simp only [h0]; split <;> simp; omega
    · simp only [leP_stt h hl h0]; omega
  omega
def Closed (q : List Int) (c : Con) : Prop := 0 ≤ slackC c q ∧ impL q (slackC c q) c.terms = []
theorem impL_mem {p : List Int} {sl : Int} {ts : List Term} {l : Int} (h : l ∈ impL p sl ts) : ∃ t ∈ ts, t.lit = l ∧ stt p l = 0 ∧ t.coef > sl := by
  unfold impL at h
  obtain ⟨t, ht, rfl⟩ := List.mem_map.1 h
  rw [List.mem_filter] at ht
  have := ht.2
  unfold impT at this
  simp at this
  exact ⟨t, ht.1, rfl, this.1, this.2⟩
theorem impL_nil {p : List Int} {sl : Int} {ts : List Term} (h : impL p sl ts = []) {t : Term} (ht : t ∈ ts) (h0 : stt p t.lit = 0) : t.coef ≤ sl := by
  unfold impL at h
  rw [List.map_eq_nil_iff, List.filter_eq_nil_iff] at h
  have := h t ht
  unfold impT at this
  simp [h0] at this
  exact this
theorem imp_closed {p q : List Int} (hp : okP p) (hq : okP q) (h : LeP p q) {c : Con} (hc : okCon c = true) (hcl : Closed q c) {l : Int} (hl : l ∈ impL p (slackC c p) c.terms) : lit12 l ∧ stt q l = 1 := by
  obtain ⟨t, ht, rfl, h0, hs⟩ := impL_mem hl
  have hk := (okCon_parts hc).2.2.1 t ht
  have hl := okT_lit12 hk
  refine ⟨hl, ?_⟩
  have hm := slack_mono hp hq h hc
  have hr := stt_range hq hl.1 hl.2.1 hl.2.2
  by_cases e0 : stt q t.lit = 0
  · have := impL_nil hcl.2 ht e0
    omega
  · by_cases e1 : stt q t.lit = 1
    · exact e1
    exfalso
    have hn : stt q t.lit < 0 := by omega
    have := sumR_le_mem (f := fun t => if stt q t.lit ≥ 0 then t.coef else 0) (g := fun t => if stt p t.lit ≥ 0 then t.coef else 0) t t.coef (by simp only [h0]; rw [if_neg (by omega)]; simp) c.terms ht fun t ht => by
      have hk := (okCon_parts hc).2.2.1 t ht
      have hl := okT_lit12 hk
      have h3 := (okT_lit hk).2.2.2.1
      by_cases h0 : stt p t.lit = 0
      · simp only [h0]; split <;> simp; omega
      · simp only [leP_stt h hl h0]; omega
    have hcl := hcl.1
    unfold slackC at hcl hs
    rw [keepT_sum] at hcl hs
    omega
inductive PR
  | conf (p : List Int) (i : Nat)
  | go (p : List Int) (m : Bool)
def pass : List Con → Nat → List Int → Bool → PR
  | [], _, p, m => .go p m
  | c :: cs, i, p, m => if slackC c p < 0 then .conf p i else pass cs (i + 1) (asgL p (impL p (slackC c p) c.terms)) (m || !(impL p (slackC c p) c.terms).isEmpty)
def prop : Nat → List Con → List Int → List Int × Int
  | 0, _, p => (p, -1)
  | n + 1, cs, p => match pass cs 0 p false with
    | .conf p' i => (p', (i : Int))
    | .go p' m => if m then prop n cs p' else (p', -1)
def zer (p : List Int) : Nat := p.countP (· == 0)
theorem zer_set (p : List Int) (k : Nat) (x : Int) (hk : k < p.length) (hx : x ≠ 0) : zer (p.set k x) + (if p.getD k 0 = 0 then 1 else 0) = zer p := by
  unfold zer
  induction p generalizing k with
  | nil => simp at hk
  | cons a p ih =>
    cases k with
    | zero => simp only [List.set_cons_zero, List.countP_cons, List.getD_cons_zero]; simp [hx]
    | succ k =>
      have := ih k (by simpa using hk)
      simp only [List.set_cons_succ, List.countP_cons, List.getD_cons_succ]
      omega
theorem zer_asg {p : List Int} (hp : okP p) {l : Int} (hl : lit12 l) : zer (asg p l) ≤ zer p ∧ (stt p l = 0 → zer (asg p l) < zer p) := by
  obtain ⟨h0, h1, h2⟩ := hl
  unfold asg stt
  split
  · have := zer_set p (l - 1).toNat 1 (by rw [hp.1]; omega) (by omega)
    constructor
    · omega
    · intro h; rw [if_pos h] at this; omega
  · have := zer_set p (-l - 1).toNat (-1) (by rw [hp.1]; omega) (by omega)
    constructor
    · omega
    · intro h; rw [if_pos (by omega)] at this; omega
theorem zer_asgL : ∀ (ls : List Int) {p : List Int}, okP p → (∀ l ∈ ls, lit12 l) → zer (asgL p ls) ≤ zer p
  | [], p, _, _ => Nat.le_refl _
  | l :: ls, p, hp, h => Nat.le_trans (zer_asgL ls (asg_ok hp l) fun x hx => h x (by simp [hx])) (zer_asg hp (h l (by simp))).1
theorem impL_lit {p : List Int} {c : Con} (hc : okCon c = true) {sl : Int} : ∀ l ∈ impL p sl c.terms, lit12 l := by
  intro l hl
  obtain ⟨t, ht, rfl, _, _⟩ := impL_mem hl
  exact okT_lit12 ((okCon_parts hc).2.2.1 t ht)
theorem zer_imp {p : List Int} (hp : okP p) {c : Con} (hc : okCon c = true) {sl : Int} (hn : impL p sl c.terms ≠ []) : zer (asgL p (impL p sl c.terms)) < zer p := by
  have hl := impL_lit (p := p) hc (sl := sl)
  cases h : impL p sl c.terms with
  | nil => exact absurd h hn
  | cons l ls =>
    rw [h] at hl
    obtain ⟨t, ht, _, h0, _⟩ := impL_mem (l := l) (by rw [h]; simp)
    have := zer_asgL ls (asg_ok hp l) fun x hx => hl x (by simp [hx])
    have := (zer_asg hp (hl l (by simp))).2 h0
    show zer (asgL (asg p l) ls) < _
    omega
theorem pass_zer : ∀ (cs : List Con) (i : Nat) (p : List Int) (m : Bool), okP p → (∀ c ∈ cs, okCon c = true) → ∀ p' m', pass cs i p m = .go p' m' → okP p' ∧ zer p' ≤ zer p ∧ (m' = true → m = true ∨ zer p' < zer p)
  | [], i, p, m, hp, _, p', m', h => by
    cases h
    exact ⟨hp, Nat.le_refl _, fun h => .inl h⟩
  | c :: cs, i, p, m, hp, hc, p', m', h => by
    rw [pass] at h
    split at h
    · cases h
    · have hcc := hc c (by simp)
      obtain ⟨g1, g2, g3⟩ := pass_zer cs _ _ _ (asgL_ok _ hp) (fun x hx => hc x (by simp [hx])) p' m' h
      have hz := zer_asgL (impL p (slackC c p) c.terms) hp (impL_lit hcc)
      refine ⟨g1, by omega, fun hm => ?_⟩
      rcases g3 hm with h1 | h1
      · rw [Bool.or_eq_true] at h1
        rcases h1 with h1 | h1
        · exact .inl h1
        · refine .inr ?_
          have := zer_imp hp hcc (sl := slackC c p) (by intro e; rw [e] at h1; simp at h1)
          omega
      · exact .inr (by omega)
theorem asgL_leP : ∀ (ls : List Int) {p q : List Int}, okP p → LeP p q → (∀ l ∈ ls, lit12 l ∧ stt q l = 1) → LeP (asgL p ls) q
  | [], _, _, _, h, _ => h
  | l :: ls, _, _, hp, h, hl => asgL_leP ls (asg_ok hp l) (asg_leP hp h (hl l (by simp)).1 (hl l (by simp)).2) fun x hx => hl x (by simp [hx])
theorem pass_closed {q : List Int} (hq : okP q) : ∀ (cs : List Con) (i : Nat) (p : List Int) (m : Bool), okP p → LeP p q → (∀ c ∈ cs, okCon c = true ∧ Closed q c) → ∃ p' m', pass cs i p m = .go p' m' ∧ okP p' ∧ LeP p' q
  | [], i, p, m, hp, hle, _ => ⟨p, m, rfl, hp, hle⟩
  | c :: cs, i, p, m, hp, hle, hc => by
    obtain ⟨h1, h2⟩ := hc c (by simp)
    have hs := slack_mono hp hq hle h1
    have := h2.1
    rw [pass, if_neg (by omega)]
    exact pass_closed hq cs _ _ _ (asgL_ok _ hp) (asgL_leP _ hp hle fun l hl => imp_closed hp hq hle h1 h2 hl) fun x hx => hc x (by simp [hx])
theorem prop_closed {q : List Int} (hq : okP q) {cs : List Con} (hc : ∀ c ∈ cs, okCon c = true ∧ Closed q c) : ∀ (n : Nat) (p : List Int), okP p → LeP p q → ∃ p', prop n cs p = (p', -1) ∧ okP p' ∧ LeP p' q
  | 0, p, hp, hle => ⟨p, rfl, hp, hle⟩
  | n + 1, p, hp, hle => by
    obtain ⟨p', m', e, h1, h2⟩ := pass_closed hq cs 0 p false hp hle hc
    rw [prop, e]
    cases m' with
    | true => exact prop_closed hq hc n p' h1 h2
    | false => exact ⟨p', rfl, h1, h2⟩
end Go.L
namespace Go.L
open Go Go.E
set_option linter.unusedVariables false
set_option linter.unusedSimpArgs false
set_option maxRecDepth 100000
def trueL (v : List Bool) (l : Int) : Bool := if l > 0 then v.getD (l - 1).toNat false else !(v.getD (-l - 1).toNat false)
def sumV (v : List Bool) (ts : List Term) : Int := sumR (fun t => if trueL v t.lit then t.coef else 0) ts
def evalC (c : Con) (v : List Bool) : Bool := decide (sumV v c.terms ≥ c.bound)
def ofV (v : List Bool) : List Int := v.map fun b => if b then 1 else -1
theorem ofV_ok {v : List Bool} (h : v.length = 12) : okP (ofV v) := by
  refine ⟨by simp [ofV, h], fun x hx => ?_⟩
  obtain ⟨b, _, rfl⟩ := List.mem_map.1 hx
  cases b <;> simp
theorem ofV_get (v : List Bool) (k : Nat) (h : k < v.length) : (ofV v).getD k 0 = if v.getD k false then 1 else -1 := by
  rw [List.getD_eq_getElem?_getD, List.getD_eq_getElem?_getD, ofV, List.getElem?_map, List.getElem?_eq_getElem h]
  rfl
theorem ofV_stt {v : List Bool} (h : v.length = 12) {l : Int} (hl : lit12 l) : stt (ofV v) l = if trueL v l then 1 else -1 := by
  obtain ⟨h0, h1, h2⟩ := hl
  unfold stt trueL
  split
  · rw [ofV_get v _ (by omega)]
  · rw [ofV_get v _ (by omega)]
    cases v.getD (-l - 1).toNat false <;> rfl
theorem sumR_congr {f g : Term → Int} (ts : List Term) (h : ∀ t ∈ ts, f t = g t) : sumR f ts = sumR g ts :=
  Int.le_antisymm (sumR_le ts fun t ht => by rw [h t ht]; exact Int.le_refl _) (sumR_le ts fun t ht => by rw [h t ht]; exact Int.le_refl _)
theorem ofV_slack {v : List Bool} (h : v.length = 12) {c : Con} (hc : okCon c = true) : slackC c (ofV v) = sumV v c.terms - c.bound := by
  unfold slackC sumV
  rw [keepT_sum, sumR_congr (g := fun t => if trueL v t.lit then t.coef else 0)]
  · omega
  · intro t ht
    rw [ofV_stt h (okT_lit12 ((okCon_parts hc).2.2.1 t ht))]
    cases trueL v t.lit <;> simp
theorem closed_ofV {v : List Bool} (h : v.length = 12) {c : Con} (hc : okCon c = true) : Closed (ofV v) c ↔ evalC c v = true := by
  unfold Closed evalC
  rw [ofV_slack h hc]
  constructor
  · intro ⟨h1, _⟩; simp; omega
  · intro he
    simp at he
    refine ⟨by omega, ?_⟩
    cases hi : impL (ofV v) (sumV v c.terms - c.bound) c.terms with
    | nil => rfl
    | cons l ls =>
      exfalso
      obtain ⟨t, ht, rfl, h0, _⟩ := impL_mem (l := l) (by rw [hi]; simp)
      rw [ofV_stt h (okT_lit12 ((okCon_parts hc).2.2.1 t ht))] at h0
      cases hb : trueL v t.lit <;> simp [hb] at h0
theorem absI_neg (n : Int) : absI (-n) = absI n := by unfold absI; omega
theorem trueL_neg (v : List Bool) {l : Int} (h0 : l ≠ 0) : trueL v (-l) = !trueL v l := by
  unfold trueL
  by_cases h : l > 0
  · rw [if_neg (by omega), if_pos h, Int.neg_neg]
  · rw [if_pos (by omega), if_neg h, Bool.not_not]
def zeroP : List Int := List.replicate 12 0
theorem zeroP_ok : okP zeroP := by
  refine ⟨rfl, fun x hx => ?_⟩
  rw [List.eq_of_mem_replicate hx]; omega
theorem zeroP_le (q : List Int) : LeP zeroP q := fun k hk hn => by
  exfalso
  apply hn
  unfold zeroP
  rw [List.getD_eq_getElem?_getD, List.getElem?_replicate_of_lt hk]
  rfl
def allV (list : List Con) (v : List Bool) : Bool := list.all fun c => evalC c v
end Go.L
namespace Go.L
open Go Go.E
set_option linter.unusedVariables false
set_option linter.unusedSimpArgs false
set_option maxRecDepth 100000
theorem prop_at : ∀ (n : Nat) (cs : List Con) (p : List Int) (p' : List Int) (a : Int), prop n cs p = (p', a) → a = -1 ∨ 0 ≤ a
  | 0, cs, p, p', a, h => by rw [prop] at h; simp at h; exact .inl h.2.symm
  | n + 1, cs, p, p', a, h => by
    rw [prop] at h
    split at h
    · simp at h; omega
    · split at h
      · exact prop_at n _ _ _ _ h
      · simp at h; exact .inl h.2.symm
theorem prop_while {τ : Type} {b : List Int × Bool → Option (Lo (List Int × Bool) τ)} (cs : List Con) (hc : ∀ c ∈ cs, okCon c = true) (res : List Int → Int → τ)
    (hb1 : ∀ p, okP p → b (p, true) = some (match pass cs 0 p false with | .conf p' i => .out (res p' (i : Int)) | .go p' m => .cont (p', m))) (hb2 : ∀ p, b (p, false) = some (.brk (p, false))) :
    ∀ (n k : Nat) (p : List Int), okP p → zer p < n → n < k → whileL b k (p, true) = some (if 0 ≤ (prop n cs p).2 then .out (res (prop n cs p).1 (prop n cs p).2) else .nx ((prop n cs p).1, false))
  | 0, _, p, _, hz, _ => by omega
  | n + 1, 0, p, _, _, hk => by omega
  | n + 1, 1, p, _, _, hk => by omega
  | n + 1, k + 2, p, hp, hz, hk => by
    show (b (p, true)).bind _ = _
    rw [hb1 p hp, prop]
    cases hpa : pass cs 0 p false with
    | conf p1 i => simp
    | go p1 m1 =>
      obtain ⟨g1, g2, g3⟩ := pass_zer cs 0 p false hp hc p1 m1 hpa
      cases m1 with
      | true =>
        have hz1 : zer p1 < n := by
          rcases g3 rfl with h | h
          · cases h
          · omega
        simpa using prop_while cs hc res hb1 hb2 n (k + 1) p1 g1 hz1 (by omega)
      | false =>
        show (b (p1, false)).bind _ = _
        rw [hb2]
        simp
theorem i_pass : ∀ (cs : List Con) (i : Nat) (p : List Int) (m : Bool), okP p → (∀ c ∈ cs, okCon c = true) →
    rangeL i_propagate_b2 cs i (p, m) = some (match pass cs i p m with | .conf p' j => .out (.out (p', (j : Int))) | .go p' m' => .nx (p', m'))
  | [], i, p, m, _, _ => rfl
  | c :: cs, i, p, m, hp, hc => by
    have hcc := hc c (by simp)
    show (i_propagate_b2 i c (p, m)).bind _ = _
    rw [i_propagate_b2, i_slack hcc hp, Option.bind_some, pass]
    by_cases h : slackC c p < 0
    · rw [if_pos h, if_pos (by simpa using h)]; rfl
    · rw [if_neg h, if_neg (by simpa using h), i_implied hcc hp, Option.bind_some, i_asgs hp m _ (impL_lit hcc), Option.bind_some]
      exact i_pass cs (i + 1) _ _ (asgL_ok _ hp) fun x hx => hc x (by simp [hx])
theorem zer_le {p : List Int} (hp : okP p) : zer p ≤ 12 := by
  have := List.countP_le_length (p := (· == 0)) (l := p)
  rw [hp.1] at this
  exact this
theorem i_clone_int (xs : List Int) (h : xs.length ≤ 4000000) : slices_Clone_int xs = some xs := by
  unfold slices_Clone_int
  rw [app_le (by simp; omega)]
  rfl
theorem i_prop (fu : Nat) (hf : FU ≤ fu) {cs : List Con} (hc : ∀ c ∈ cs, okCon c = true) {p : List Int} (hp : okP p) : i_propagate fu cs p = some (prop 13 cs p) := by
  have hz := zer_le hp
  unfold i_propagate
  rw [i_clone_int p (by rw [hp.1]; omega), Option.bind_some, prop_while (b := i_propagate_b1 cs) cs hc (fun p a => (p, a)) (fun p hp => by
    rw [i_propagate_b1, if_pos rfl, i_pass cs 0 p false hp hc]
    cases pass cs 0 p false <;> rfl) (fun p => by rw [i_propagate_b1]; rfl) 13 fu p hp (by omega) (by unfold FU at hf; omega)]
  generalize hr : prop 13 cs p = r
  obtain ⟨p', a⟩ := r
  by_cases h : 0 ≤ a
  · simp [h]
  · have := prop_at _ _ _ _ _ hr
    obtain rfl : a = -1 := by omega
    simp
theorem mkZero : mkN 12 0 = some zeroP := mkN_le (n := 12) 0 (by omega)
end Go.L
namespace Go.L
open Go Go.E
set_option linter.unusedVariables false
set_option linter.unusedSimpArgs false
set_option maxRecDepth 100000
theorem sumV_snoc (v : List Bool) (ts : List Term) (t : Term) : sumV v (ts ++ [t]) = if trueL v t.lit then sumV v ts + t.coef else sumV v ts := by
  have e : ∀ ts, sumV v ts = ts.foldl (fun n t => n + (if trueL v t.lit then t.coef else 0)) 0 := fun ts => by
    rw [foldl_sumR]; unfold sumV; omega
  rw [e, e, List.foldl_append, List.foldl_cons, List.foldl_nil]
  cases trueL v t.lit <;> simp
theorem sumV_bound (v : List Bool) : ∀ (ts : List Term), (∀ t ∈ ts, okT t = true) → 0 ≤ sumV v ts ∧ sumV v ts ≤ 1000 * ts.length
  | [], _ => by simp [sumV, sumR]
  | t :: ts, h => by
    have := sumV_bound v ts fun u hu => h u (by simp [hu])
    obtain ⟨_, _, _, h3, h4⟩ := okT_lit (h t (by simp))
    unfold sumV at *
    simp only [sumR, List.length_cons]
    split <;> omega
end Go.L
namespace Go.L
open Go Go.E
set_option linter.unusedVariables false
set_option linter.unusedSimpArgs false
set_option maxRecDepth 100000
def zeroC : Con := ⟨[], 0⟩
theorem sumR_snoc (f : Term → Int) (ts : List Term) (t : Term) : sumR f (ts ++ [t]) = sumR f ts + f t := by
  induction ts with
  | nil => simp [sumR]
  | cons u ts ih => rw [List.cons_append, sumR, ih, sumR]; omega
theorem take_snoc {α : Type} {xs : List α} {i : Nat} {x : α} (h : xs[i]? = some x) : xs.take (i + 1) = xs.take i ++ [x] := by rw [List.take_add_one, h]; rfl
theorem sumR_zero {f : Term → Int} : ∀ (ts : List Term), (∀ t ∈ ts, f t = 0) → sumR f ts = 0
  | [], _ => rfl
  | t :: ts, h => by rw [sumR, h t (by simp), sumR_zero ts fun u hu => h u (by simp [hu])]; rfl
def validC (c : Con) : Con × Bool := if okCon c then (c, true) else (zeroC, false)
theorem i_valid2 (c : Con) : i_Constraint_valid c = some (validC c) := by
  unfold i_Constraint_valid validC
  rw [i_valid, Option.bind_some]
  cases okCon c <;> rfl
end Go.L
namespace Go.L
open Go Go.E
set_option linter.unusedVariables false
set_option linter.unusedSimpArgs false
set_option maxRecDepth 100000
def con1 (k : Int) (t : Term) : Int := if t.lit = k then t.coef else if t.lit = -k then -t.coef else 0
def netF (ts : List Term) (k : Int) : Int := sumR (con1 k) ts
def negS (ts : List Term) : Int := sumR (fun t => if t.lit < 0 then t.coef else 0) ts
def okLit (t : Term) : Prop := lit12 t.lit ∧ -1000 ≤ t.coef ∧ t.coef ≤ 1000
theorem sumR_abs {f : Term → Int} : ∀ (ts : List Term), (∀ t ∈ ts, -1000 ≤ f t ∧ f t ≤ 1000) → -(1000 * (ts.length : Int)) ≤ sumR f ts ∧ sumR f ts ≤ 1000 * ts.length
  | [], _ => by simp [sumR]
  | t :: ts, h => by
    have h1 := h t (by simp)
    have := sumR_abs (f := f) ts fun u hu => h u (by simp [hu])
    simp only [sumR, List.length_cons]; omega
theorem netF_bound {ts : List Term} (h : ∀ t ∈ ts, okLit t) (hl : ts.length ≤ 100) (k : Int) : -100000 ≤ netF ts k ∧ netF ts k ≤ 100000 := by
  have := sumR_abs (f := con1 k) ts fun t ht => by
    obtain ⟨_, h1, h2⟩ := h t ht
    unfold con1
    split
    · omega
    · split <;> omega
  unfold netF
  omega
theorem negS_bound {ts : List Term} (h : ∀ t ∈ ts, okLit t) (hl : ts.length ≤ 100) : -100000 ≤ negS ts ∧ negS ts ≤ 100000 := by
  have := sumR_abs (f := fun t => if t.lit < 0 then t.coef else 0) ts fun t ht => by
    obtain ⟨_, h1, h2⟩ := h t ht
    split <;> omega
  unfold negS
  omega
def rowN (ts : List Term) : List Int := (List.range 13).map fun (k : Nat) => netF ts (k : Int)
theorem rowN_len (ts : List Term) : (rowN ts).length = 13 := by simp [rowN]
theorem rowN_get (ts : List Term) (k : Nat) (h : k < 13) : (rowN ts)[k]? = some (netF ts (k : Int)) := by
  unfold rowN
  rw [List.getElem?_map, List.getElem?_range h]
  rfl
theorem netF_snoc (ts : List Term) (t : Term) (k : Int) : netF (ts ++ [t]) k = netF ts k + con1 k t := sumR_snoc _ _ _
theorem negS_snoc (ts : List Term) (t : Term) : negS (ts ++ [t]) = negS ts + (if t.lit < 0 then t.coef else 0) := sumR_snoc _ _ _
theorem row_set (ts : List Term) (t : Term) (ht : okLit t) (k : Nat) (hk : (k : Int) = absI t.lit) (y : Int) (hy : y = netF ts (k : Int) + (if t.lit > 0 then t.coef else -t.coef)) : (rowN ts).set k y = rowN (ts ++ [t]) := by
  obtain ⟨⟨h0, h1, h2⟩, _, _⟩ := ht
  unfold absI at hk
  apply List.ext_getElem?
  intro j
  by_cases hj : j < 13
  · rw [rowN_get _ _ hj, List.getElem?_set, netF_snoc, rowN_get _ _ hj, rowN_len]
    by_cases e : k = j
    · subst e
      rw [if_pos rfl, if_pos hj, hy]
      unfold con1
      congr 2
      split
      · rw [if_pos (by omega)]
      · rw [if_neg (by omega), if_pos (by omega)]
    · rw [if_neg e]
      unfold con1
      rw [if_neg (by omega), if_neg (by omega)]
      simp
  · rw [List.getElem?_eq_none (by rw [List.length_set, rowN_len]; omega), List.getElem?_eq_none (by rw [rowN_len]; omega)]
theorem net_loop {τ : Type} {b : Nat → Term → Int × List Int → Option (Lo (Int × List Int) τ)} (ts : List Term) (bound : Int) (hts : ∀ t ∈ ts, okLit t) (hl : ts.length ≤ 100) (hb0 : -100000 ≤ bound ∧ bound ≤ 100000)
    (hb : ∀ i t bd (xs : List Term), okLit t → xs.length ≤ 100 → (∀ t ∈ xs, okLit t) → -200000 ≤ bd ∧ bd ≤ 200000 → b i t (bd, rowN xs) = some (.cont (bd - (if t.lit < 0 then t.coef else 0), rowN (xs ++ [t])))) :
    rangeL b ts 0 (bound, rowN []) = some (.nx (bound - negS ts, rowN ts)) := by
  have := range_to (b := b) (fun i => (bound - negS (ts.take i), rowN (ts.take i))) ts (by
    intro i t ht
    have ho := hts t (List.mem_of_getElem? ht)
    have hoo : ∀ u ∈ ts.take i, okLit u := fun u hu => hts u (List.mem_of_mem_take hu)
    have hlen : (ts.take i).length ≤ 100 := by simp; omega
    have hn := negS_bound hoo hlen
    rw [hb i t _ _ ho hlen hoo (by omega), take_snoc ht, negS_snoc]
    congr 3
    omega)
  have e0 : (bound, rowN []) = (bound - negS (ts.take 0), rowN (ts.take 0)) := by
    have : negS (ts.take 0) = 0 := rfl
    rw [this]; simp
  rw [e0, this, List.take_length]
theorem rowN_nil : List.replicate 13 (0 : Int) = rowN [] := by decide
theorem mkRow0 : mkN 13 (0 : Int) = some (rowN []) := by rw [← rowN_nil]; exact mkN_le (n := 13) (0 : Int) (by omega)
theorem i_net_round (i : Nat) (t : Term) (bd : Int) (xs : List Term) (ho : okLit t) (hl : xs.length ≤ 100) (hxs : ∀ t ∈ xs, okLit t) (hb : -200000 ≤ bd ∧ bd ≤ 200000) :
    i_normal_b1 i t (bd, rowN xs) = some (.cont (bd - (if t.lit < 0 then t.coef else 0), rowN (xs ++ [t]))) := by
  have ho' := ho
  obtain ⟨⟨h0, h1, h2⟩, h3, h4⟩ := ho
  rw [i_normal_b1]
  by_cases h : t.lit > 0
  · obtain ⟨k, hk⟩ : ∃ k : Nat, t.lit = (k : Int) := ⟨t.lit.toNat, by omega⟩
    have hn := netF_bound hxs hl (k : Int)
    rw [if_neg (by simp; omega), hk, idx_nat, rowN_get _ _ (by omega), Option.bind_some, Int.toNat_natCast, i64_id (by omega) (by omega), if_neg (by omega),
      row_set xs t ho' k (by unfold absI; omega) (netF xs (k : Int) + t.coef) (by rw [if_pos h])]
    simp
  · obtain ⟨k, hk⟩ : ∃ k : Nat, -t.lit = (k : Int) := ⟨(-t.lit).toNat, by omega⟩
    have hn := netF_bound hxs hl (k : Int)
    rw [if_pos (by simp; omega), i64_id (n := -t.lit) (by omega) (by omega), hk, idx_nat, rowN_get _ _ (by omega), Option.bind_some, Int.toNat_natCast, i64_id (n := bd - t.coef) (by omega) (by omega), i64_id (by omega) (by omega), if_pos (by omega),
      row_set xs t ho' k (by unfold absI; omega) (netF xs (k : Int) - t.coef) (by rw [if_neg h]; omega)]
    rfl
def piece (f : Int → Int) (k : Int) : List Term := if f k > 0 then [⟨f k, k⟩] else if f k < 0 then [⟨-f k, -k⟩] else []
def normT (f : Int → Int) : Nat → List Term
  | 0 => []
  | n + 1 => normT f n ++ piece f ((n + 1 : Nat) : Int)
def minS (f : Int → Int) : Nat → Int
  | 0 => 0
  | n + 1 => minS f n + min (f ((n + 1 : Nat) : Int)) 0
def normC (ts : List Term) (bound : Int) : Con × Bool := validC ⟨normT (netF ts) 12, max 0 (bound - negS ts - minS (netF ts) 12)⟩
theorem normT_len (f : Int → Int) : ∀ n, (normT f n).length ≤ n
  | 0 => Nat.le_refl _
  | n + 1 => by
    have := normT_len f n
    rw [normT, List.length_append]
    have : (piece f ((n + 1 : Nat) : Int)).length ≤ 1 := by
      unfold piece
      split
      · simp
      · split <;> simp
    omega
theorem minS_bound {f : Int → Int} (h : ∀ k, -100000 ≤ f k ∧ f k ≤ 100000) : ∀ n : Nat, -(100000 * (n : Int)) ≤ minS f n ∧ minS f n ≤ 0
  | 0 => by simp [minS]
  | n + 1 => by
    have h1 := minS_bound h n
    have h2 := h ((n + 1 : Nat) : Int)
    rw [minS]
    omega
theorem piece_round {f : Int → Int} (hf : ∀ k, -100000 ≤ f k ∧ f k ≤ 100000) (n : Nat) (hn : n < 12) (bd : Int) (hb : -10000000 ≤ bd ∧ bd ≤ 10000000) :
    (bd - min (f ((n + 1 : Nat) : Int)) 0, normT f (n + 1)) = (if f ((n + 1 : Nat) : Int) > 0 then (bd, normT f n ++ [⟨f ((n + 1 : Nat) : Int), ((n + 1 : Nat) : Int)⟩]) else if f ((n + 1 : Nat) : Int) < 0 then (bd - f ((n + 1 : Nat) : Int), normT f n ++ [⟨-f ((n + 1 : Nat) : Int), -((n + 1 : Nat) : Int)⟩]) else (bd, normT f n)) := by
  rw [normT]
  unfold piece
  split
  · rw [show min (f ((n + 1 : Nat) : Int)) 0 = 0 by omega]; simp
  · split
    · rw [show min (f ((n + 1 : Nat) : Int)) 0 = f ((n + 1 : Nat) : Int) by omega]
    · rw [show min (f ((n + 1 : Nat) : Int)) 0 = 0 by omega]; simp
theorem s_norm {ts : List Term} (hts : ∀ t ∈ ts, okLit t) (hl : ts.length ≤ 100) (bd : Int) (hb : -300000 ≤ bd ∧ bd ≤ 300000) : s_l1Normal (rowN ts) bd = some (validC ⟨normT (netF ts) 12, max 0 (bd - minS (netF ts) 12)⟩) := by
  unfold s_l1Normal
  have e : cntF 1 (12 + 1) = some 12 := by rw [cntF_of (s := 1) (by omega) (by omega)]; congr 1
  have hf := fun k => netF_bound hts hl k
  rw [e, Option.bind_some]
  have := count_to (b := s_l1Normal_b1 (rowN ts)) (fun i => (bd - minS (netF ts) (i - 1), normT (netF ts) (i - 1))) 12 1 (by
    intro i h1 h2
    obtain ⟨n, rfl⟩ : ∃ n, i = n + 1 := ⟨i - 1, by omega⟩
    simp only [Nat.add_sub_cancel]
    have hm := minS_bound hf n
    have hfn := hf ((n + 1 : Nat) : Int)
    have hnl := normT_len (netF ts) n
    have e2 : (bd - minS (netF ts) (n + 1), normT (netF ts) (n + 1)) = (bd - minS (netF ts) n - min (netF ts ((n + 1 : Nat) : Int)) 0, normT (netF ts) (n + 1)) := by rw [minS]; congr 1; omega
    rw [e2, piece_round hf n (by omega) _ (by omega), s_l1Normal_b1, idx_nat, rowN_get _ _ (by omega), Option.bind_some]
    by_cases c1 : netF ts ((n + 1 : Nat) : Int) > 0
    · have c2 : ¬ netF ts ((n + 1 : Nat) : Int) < 0 := by omega
      simp only [c1, c2, decide_true, decide_false, if_true, Bool.false_eq_true, if_false]
      rw [app_le (by simp; omega)]
      rfl
    · by_cases c2 : netF ts ((n + 1 : Nat) : Int) < 0
      · simp only [c1, c2, decide_true, decide_false, if_true, Bool.false_eq_true, if_false, Option.bind_some]
        rw [app_le (by simp; omega), i64_id (n := -netF ts ((n + 1 : Nat) : Int)) (by omega) (by omega), i64_id (n := -((n + 1 : Nat) : Int)) (by omega) (by omega), Option.bind_some, i64_id (by omega) (by omega)]
        rfl
      · simp only [c1, c2, decide_false, Bool.false_eq_true, if_false, Option.bind_some])
  have e0 : (bd, ([] : List Term)) = (bd - minS (netF ts) (1 - 1), normT (netF ts) (1 - 1)) := by simp [minS, normT]
  rw [e0, this, Option.bind_some]
  simp only [show 1 + 12 - 1 = 12 from rfl]
  have hnl := normT_len (netF ts) 12
  have em : (if decide (bd - minS (netF ts) 12 < 0) then (some 0) else (some (bd - minS (netF ts) 12)) : Option Int) = some (max 0 (bd - minS (netF ts) 12)) := by
    by_cases h : bd - minS (netF ts) 12 < 0
    · rw [if_pos (decide_eq_true h)]; congr 1; omega
    · rw [if_neg (by simpa using h)]; congr 1; omega
  rw [em, Option.bind_some, s_valid _ (by unfold ML; simp only; omega), Option.bind_some, validC]
  cases okCon ⟨normT (netF ts) 12, max 0 (bd - minS (netF ts) 12)⟩ <;> rfl
theorem netF_zero {ts : List Term} (hts : ∀ t ∈ ts, okLit t) : netF ts 0 = 0 :=
  sumR_zero ts fun t ht => by
    have := (hts t ht).1.1
    unfold con1
    rw [if_neg (by omega), if_neg (by omega)]
theorem i_norm {ts : List Term} (hts : ∀ t ∈ ts, okLit t) (hl : ts.length ≤ 100) (bound : Int) (hb : -100000 ≤ bound ∧ bound ≤ 100000) : i_normal ts bound = some (normC ts bound) := by
  unfold i_normal
  have hns := negS_bound hts hl
  rw [rowN_nil, net_loop (b := i_normal_b1) ts bound hts hl hb i_net_round, Option.bind_some]
  simp only
  have e : cntF 0 13 = some 13 := cntF_nat (n := 13) (by omega)
  have hf := fun k => netF_bound hts hl k
  rw [e, Option.bind_some]
  generalize hbd : bound - negS ts = bd
  have hbd2 : -300000 ≤ bd ∧ bd ≤ 300000 := by omega
  have r0 : i_normal_b2 (rowN ts) 0 (bd, []) = some (.cont (bd, [])) := by
    rw [i_normal_b2, idx_nat, rowN_get _ _ (by omega), Option.bind_some]
    have z : netF ts ((0 : Nat) : Int) = 0 := netF_zero hts
    rw [z]
    rfl
  have := count_to (b := i_normal_b2 (rowN ts)) (fun i => (bd - minS (netF ts) (i - 1), normT (netF ts) (i - 1))) 12 1 (by
    intro i h1 h2
    obtain ⟨n, rfl⟩ : ∃ n, i = n + 1 := ⟨i - 1, by omega⟩
    simp only [Nat.add_sub_cancel]
    have hm := minS_bound hf n
    have hfn := hf ((n + 1 : Nat) : Int)
    have hnl := normT_len (netF ts) n
    have e2 : (bd - minS (netF ts) (n + 1), normT (netF ts) (n + 1)) = (bd - minS (netF ts) n - min (netF ts ((n + 1 : Nat) : Int)) 0, normT (netF ts) (n + 1)) := by rw [minS]; congr 1; omega
    rw [e2, piece_round hf n (by omega) _ (by omega), i_normal_b2, idx_nat, rowN_get _ _ (by omega), Option.bind_some]
    by_cases c1 : netF ts ((n + 1 : Nat) : Int) > 0
    · simp only [c1, decide_true, if_true]
      rw [app_le (by simp; omega)]
      rfl
    · by_cases c2 : netF ts ((n + 1 : Nat) : Int) < 0
      · simp only [c1, c2, decide_true, decide_false, if_true, Bool.false_eq_true, if_false]
        rw [app_le (by simp; omega), i64_id (n := -netF ts ((n + 1 : Nat) : Int)) (by omega) (by omega), i64_id (n := -((n + 1 : Nat) : Int)) (by omega) (by omega), Option.bind_some, i64_id (by omega) (by omega)]
        rfl
      · simp only [c1, c2, decide_false, Bool.false_eq_true, if_false, Option.bind_some])
  have e0 : (bd, ([] : List Term)) = (bd - minS (netF ts) (1 - 1), normT (netF ts) (1 - 1)) := by simp [minS, normT]
  have e13 : countL (i_normal_b2 (rowN ts)) 13 0 (bd, []) = some (.nx (bd - minS (netF ts) 12, normT (netF ts) 12)) := by
    show (i_normal_b2 (rowN ts) 0 (bd, [])).bind _ = _
    rw [r0]
    show countL (i_normal_b2 (rowN ts)) 12 1 (bd, []) = _
    rw [e0, this]
  rw [e13, Option.bind_some]
  simp only
  rw [i_valid2, Option.bind_some]
  unfold normC
  rw [hbd]
def xv (v : List Bool) (k : Int) : Bool := v.getD (k - 1).toNat false
def sumK (g : Int → Int) : Nat → Int
  | 0 => 0
  | n + 1 => sumK g n + g ((n + 1 : Nat) : Int)
theorem sumK_add (f g : Int → Int) : ∀ n, sumK (fun k => f k + g k) n = sumK f n + sumK g n
  | 0 => rfl
  | n + 1 => by rw [sumK, sumK, sumK, sumK_add f g n]; omega
theorem sumK_one (g : Int → Int) (j : Nat) (hj : 1 ≤ j) : ∀ n, (∀ k : Nat, k ≠ j → g (k : Int) = 0) → sumK g n = if j ≤ n then g (j : Int) else 0
  | 0, _ => by rw [sumK, if_neg (by omega)]
  | n + 1, h => by
    rw [sumK, sumK_one g j hj n h]
    by_cases e : j = n + 1
    · subst e
      rw [if_neg (by omega), if_pos (Nat.le_refl _)]; omega
    · rw [h (n + 1) (by omega)]
      by_cases h2 : j ≤ n
      · rw [if_pos h2, if_pos (by omega)]; omega
      · rw [if_neg h2, if_neg (by omega)]; rfl
theorem sumK_zero (n : Nat) : sumK (fun _ => 0) n = 0 := by
  induction n with
  | zero => rfl
  | succ n ih => rw [sumK, ih]; rfl
theorem trueL_xv (v : List Bool) (k : Int) (h : 0 < k) : trueL v k = xv v k ∧ trueL v (-k) = !xv v k := by
  unfold trueL xv
  rw [if_pos h, if_neg (by omega), Int.neg_neg]
  exact ⟨rfl, rfl⟩
theorem net_sum (v : List Bool) : ∀ (ts : List Term), (∀ t ∈ ts, okLit t) → sumV v ts = sumK (fun k => if xv v k then netF ts k else 0) 12 + negS ts
  | [], _ => by
    have : (fun k => if xv v k then netF [] k else 0) = fun _ => (0 : Int) := by funext k; simp [netF, sumR]
    rw [this, sumK_zero]
    rfl
  | t :: ts, h => by
    have ih := net_sum v ts fun u hu => h u (by simp [hu])
    obtain ⟨⟨h0, h1, h2⟩, _, _⟩ := h t (by simp)
    have e : (fun k => if xv v k then netF (t :: ts) k else 0) = fun k => (if xv v k then con1 k t else 0) + (if xv v k then netF ts k else 0) := by
      funext k
      show (if xv v k then con1 k t + netF ts k else 0) = _
      cases xv v k <;> simp
    rw [e, sumK_add]
    show (if trueL v t.lit then t.coef else 0) + sumV v ts = _ + ((if t.lit < 0 then t.coef else 0) + negS ts)
    obtain ⟨j, hj⟩ : ∃ j : Nat, absI t.lit = (j : Int) := ⟨(absI t.lit).toNat, by unfold absI; omega⟩
    unfold absI at hj
    have hz : ∀ k : Nat, k ≠ j → con1 (k : Int) t = 0 := fun k hk => by
      unfold con1
      rw [if_neg (by omega), if_neg (by omega)]
    rw [sumK_one _ j (by omega) 12 fun k hk => by rw [hz k hk]; simp, if_pos (c := j ≤ 12) (by omega)]
    by_cases hp : t.lit > 0
    · have ej : t.lit = (j : Int) := by omega
      have hc : con1 (j : Int) t = t.coef := by unfold con1; rw [if_pos ej]
      rw [hc, ej, (trueL_xv v (j : Int) (by omega)).1, if_neg (c := (j : Int) < 0) (by omega)]
      omega
    · have ej : t.lit = -(j : Int) := by omega
      have hc : con1 (j : Int) t = -t.coef := by unfold con1; rw [if_neg (by omega), if_pos ej]
      rw [hc, ej, (trueL_xv v (j : Int) (by omega)).2, if_pos (c := -(j : Int) < 0) (by omega)]
      cases xv v (j : Int) <;> simp <;> omega
theorem sumV_app (v : List Bool) (xs ys : List Term) : sumV v (xs ++ ys) = sumV v xs + sumV v ys := by
  unfold sumV
  induction xs with
  | nil => simp [sumR]
  | cons t xs ih => rw [List.cons_append, sumR, ih, sumR]; omega
theorem piece_sum (v : List Bool) (f : Int → Int) (k : Int) (hk : 0 < k) : sumV v (piece f k) = (if xv v k then f k else 0) - min (f k) 0 := by
  have ht := trueL_xv v k hk
  generalize hy : f k = y
  unfold piece
  rw [hy]
  split
  · simp only [sumV, sumR]
    rw [ht.1]
    omega
  · split
    · simp only [sumV, sumR]
      rw [ht.2]
      cases xv v k <;> simp <;> omega
    · simp only [sumV, sumR]
      split <;> omega
theorem norm_sum (v : List Bool) (f : Int → Int) : ∀ n, sumV v (normT f n) = sumK (fun k => if xv v k then f k else 0) n - minS f n
  | 0 => rfl
  | n + 1 => by
    rw [normT, sumV_app, norm_sum v f n, sumK, minS]
    have e := piece_sum v f ((n + 1 : Nat) : Int) (by omega)
    omega
theorem sumV_nonneg (v : List Bool) : ∀ (ts : List Term), (∀ t ∈ ts, okT t = true) → 0 ≤ sumV v ts := fun ts h => (sumV_bound v ts h).1
end Go.L
namespace Go.L
open Go Go.E
set_option linter.unusedVariables false
set_option linter.unusedSimpArgs false
set_option maxRecDepth 100000
theorem equal_list {α : Type} [DecidableEq α] (s1 s2 : List α) {b : Nat → α → Unit → Option (Lo Unit Bool)} (hb : ∀ (i : Nat) x, b i x () = (idx s2 (i : Int)).bind fun y => if decide (x = y) then some (.cont ()) else some (.out false)) (hl : s1.length = s2.length) :
    rangeL b s1 0 () = some (if decide (s1 = s2) then .nx () else .out false) := by
  rw [range_allI (fun i x => decide (s2[i]? = some x)) false s1 fun i x hx => by
    have hi := (List.getElem?_eq_some_iff.1 hx).1
    have h2 : i < s2.length := by omega
    rw [hb, idx_nat, List.getElem?_eq_getElem h2, Option.bind_some]
    by_cases h : x = s2[i]
    · simp [h]
    · simp [h, Ne.symm h]]
  congr 2
  have : allFrom (fun i x => decide (s2[i]? = some x)) s1 0 = decide (s1 = s2) := by
    rw [Bool.eq_iff_iff, allFrom_iff]
    simp only [decide_eq_true_eq, Nat.zero_add]
    constructor
    · intro h
      apply List.ext_getElem?
      intro i
      cases h1 : s1[i]? with
      | some x => rw [h i x h1]
      | none => rw [List.getElem?_eq_none_iff] at h1; rw [List.getElem?_eq_none (by omega)]
    · intro h i x hx
      rw [← h]; exact hx
  rw [this]
theorem i_equal (s1 s2 : List Term) : slices_Equal_implTerm s1 s2 = some (decide (s1 = s2)) := by
  unfold slices_Equal_implTerm
  by_cases hl : s1.length = s2.length
  · rw [if_neg (by simp [hl]), equal_list s1 s2 (b := slices_Equal_implTerm_b1 s2) (fun i x => by
      rw [slices_Equal_implTerm_b1]
      congr 1
      funext y
      by_cases h : x = y <;> simp [h]) hl]
    by_cases h : s1 = s2 <;> simp [h]
  · rw [if_pos (by simp; omega), decide_eq_false (by intro h; rw [h] at hl; exact hl rfl)]
theorem i_same (a b : Con) : i_ConstraintSame a b = some (decide (a = b)) := by
  unfold i_ConstraintSame
  rw [i_equal]
  obtain ⟨t1, b1⟩ := a
  obtain ⟨t2, b2⟩ := b
  by_cases h1 : b1 = b2
  · by_cases h2 : t1 = t2 <;> simp [h1, h2]
  · simp [h1]
end Go.L
namespace Go.L
open Go Go.E
set_option linter.unusedVariables false
set_option linter.unusedSimpArgs false
set_option maxRecDepth 100000
end Go.L
namespace Go.L
open Go Go.E
set_option linter.unusedVariables false
set_option linter.unusedSimpArgs false
set_option maxRecDepth 100000
end Go.L
namespace Go.L
open Go Go.E
set_option linter.unusedVariables false
set_option linter.unusedSimpArgs false
set_option maxRecDepth 100000
theorem cpProb (a b : List Con) : l_cpProblem a b = some (decide (a = b)) := by
  unfold l_cpProblem
  by_cases hl : a.length = b.length
  · rw [if_neg (by simp [hl]), equal_list a b (b := l_cpProblem_b1 b) (fun i x => by
      rw [l_cpProblem_b1]
      congr 1
      funext y
      rw [i_same]
      by_cases h : x = y <;> simp [h]) hl]
    by_cases h : a = b <;> simp [h]
  · rw [if_pos (by simp; omega), decide_eq_false (by intro h; rw [h] at hl; exact hl rfl)]
end Go.L
namespace Go.L
open Go Go.E
set_option linter.unusedVariables false
set_option linter.unusedSimpArgs false
set_option maxRecDepth 100000
def zeroC' : Con := ⟨[], 0⟩
def seenAt (ls : List Int) (v : Int) : Int := if ls.contains v then v else if ls.contains (-v) then -v else 0
def clT (ls : List Int) : Nat → List Term
  | 0 => []
  | n + 1 => clT ls n ++ (if seenAt ls ((n + 1 : Nat) : Int) ≠ 0 then [⟨1, seenAt ls ((n + 1 : Nat) : Int)⟩] else [])
def clC (ls : List Int) : Con := ⟨clT ls 12, 1⟩
def litOk (l : Int) : Bool := l != 0 && (decide (-12 ≤ l) && decide (l ≤ 12))
theorem litOk_iff {l : Int} : litOk l = true ↔ lit12 l := by unfold litOk lit12; simp
def clOk (ls : List Int) : Bool := ls.all fun l => litOk l && !ls.contains (-l)
def clauseP (ls : List Int) : Con × Bool := if ls.length ≤ 40 && clOk ls then (clC ls, true) else (zeroC', false)
theorem clOk_iff {ls : List Int} : clOk ls = true ↔ ∀ l ∈ ls, lit12 l ∧ ¬ (-l) ∈ ls := by
  unfold clOk
  rw [List.all_eq_true]
  constructor
  · intro h l hl
    have := h l hl
    rw [Bool.and_eq_true, litOk_iff] at this
    exact ⟨this.1, by simpa using this.2⟩
  · intro h l hl
    rw [Bool.and_eq_true, litOk_iff]
    exact ⟨(h l hl).1, by simpa using (h l hl).2⟩
def seenR (ls : List Int) : List Int := (List.range 13).map fun (k : Nat) => seenAt ls (k : Int)
theorem seenR_get (ls : List Int) (k : Nat) (h : k < 13) : (seenR ls)[k]? = some (seenAt ls (k : Int)) := by
  unfold seenR
  rw [List.getElem?_map, List.getElem?_range h]
  rfl
theorem seenR_len (ls : List Int) : (seenR ls).length = 13 := by simp [seenR]
theorem seenAt_snoc {ls : List Int} {l : Int} (hl : lit12 l) (h : ¬ (-l) ∈ ls) (h0 : ∀ x ∈ ls, lit12 x) (k : Nat) (hk : k < 13) : seenAt (ls ++ [l]) (k : Int) = if (k : Int) = absI l then l else seenAt ls (k : Int) := by
  obtain ⟨a0, a1, a2⟩ := hl
  unfold seenAt absI
  simp only [List.contains_eq_mem, List.mem_append, List.mem_singleton, decide_eq_true_eq]
  by_cases e : (k : Int) = max l (-l)
  · rw [if_pos e]
    by_cases hp : l > 0
    · have ek : (k : Int) = l := by omega
      rw [if_pos (.inr ek), ek]
    · have ek : (k : Int) = -l := by omega
      have n1 : ¬ ((k : Int) ∈ ls ∨ (k : Int) = l) := by
        rintro (h1 | h1)
        · rw [ek] at h1; exact h h1
        · omega
      rw [if_neg n1, if_pos (.inr (by omega))]
      omega
  · rw [if_neg e]
    have n1 : ((k : Int) ∈ ls ∨ (k : Int) = l) ↔ (k : Int) ∈ ls := ⟨fun h => h.elim id fun h => by exfalso; omega, .inl⟩
    have n2 : (-(k : Int) ∈ ls ∨ -(k : Int) = l) ↔ -(k : Int) ∈ ls := ⟨fun h => h.elim id fun h => by exfalso; omega, .inl⟩
    simp only [n1, n2]
theorem mk13 : mkN 13 (0 : Int) = some (seenR []) := by
  have : List.replicate 13 (0 : Int) = seenR [] := by decide
  rw [← this]; exact mkN_le (n := 13) (0 : Int) (by omega)
theorem take_snoc1 {α : Type} {xs : List α} {i : Nat} {x : α} (h : xs[i]? = some x) : xs.take (i + 1) = xs.take i ++ [x] := by rw [List.take_add_one, h]; rfl
theorem clT_len (ls : List Int) : ∀ n, (clT ls n).length ≤ n
  | 0 => Nat.le_refl _
  | n + 1 => by
    have := clT_len ls n
    rw [clT, List.length_append]
    split <;> simp <;> omega
theorem s_abs' {l : Int} (h : lit12 l) : s_l1Abs l = some (absI l) := s_abs l (by have := h.2.1; omega) (by have := h.2.2; omega)
theorem s_clause (ls : List Int) : s_ClauseOf ls = some (clauseP ls) := by
  unfold s_ClauseOf clauseP
  rw [mk13, Option.bind_some]
  by_cases h40 : ls.length ≤ 40
  · rw [if_neg (by simp; omega)]
    have hd : decide (ls.length ≤ 40) = true := decide_eq_true h40
    rw [hd, Bool.true_and]
    obtain ⟨j, hj, hQ⟩ := range_inv (b := s_ClauseOf_b1) ls (fun i s => s = seenR (ls.take i) ∧ clOk (ls.take i) = true)
      (fun j => match j with | .nx s => s = seenR ls ∧ clOk ls = true | .out t => t = (zeroC', false) ∧ clOk ls = false)
      (fun s h => by simpa using h) (by
        rintro i l s hl ⟨rfl, hok⟩
        have hi := (List.getElem?_eq_some_iff.1 hl).1
        have hml := List.mem_of_getElem? hl
        rw [s_ClauseOf_b1]
        unfold s_l1Lit
        cases hlo : litOk l with
        | false =>
          refine ⟨.out (zeroC', false), ?_, rfl, ?_⟩
          · have : (((l != 0) && (decide (l ≥ (-12)))) && (decide (l ≤ 12))) = false := by rw [← hlo]; unfold litOk; rw [Bool.and_assoc]
            rw [this]; rfl
          · cases hc : clOk ls with
            | false => rfl
            | true => rw [litOk_iff.2 (clOk_iff.1 hc l hml).1] at hlo; cases hlo
        | true =>
          have h12 := litOk_iff.1 hlo
          obtain ⟨a0, a1, a2⟩ := h12
          have : (((l != 0) && (decide (l ≥ (-12)))) && (decide (l ≤ 12))) = true := by rw [← hlo]; unfold litOk; rw [Bool.and_assoc]
          rw [this]
          simp only [Option.bind_some, Bool.not_true, Bool.false_eq_true, if_false]
          obtain ⟨k, hk⟩ : ∃ k : Nat, absI l = (k : Int) := ⟨(absI l).toNat, by unfold absI; omega⟩
          have hk13 : k < 13 := by unfold absI at hk; omega
          rw [s_abs' ⟨a0, a1, a2⟩, Option.bind_some, hk, idx_nat, seenR_get _ _ hk13, Option.bind_some, i64_id (by omega) (by omega)]
          have hnn : ∀ x ∈ ls.take i, lit12 x := fun x hx => (clOk_iff.1 hok x hx).1
          by_cases hc : (-l) ∈ ls.take i
          · refine ⟨.out (zeroC', false), ?_, rfl, ?_⟩
            · have hs : seenAt (ls.take i) (k : Int) = -l := by
                have hnl : ¬ l ∈ ls.take i := fun h => by
                  have := (clOk_iff.1 hok (-l) hc).2
                  rw [Int.neg_neg] at this
                  exact this h
                unfold seenAt
                unfold absI at hk
                simp only [List.contains_eq_mem, decide_eq_true_eq]
                by_cases hp : l > 0
                · have e1 : (k : Int) = l := by omega
                  rw [e1, if_neg hnl, if_pos hc]
                · have e1 : (k : Int) = -l := by omega
                  rw [e1, if_pos hc]
              rw [hs, beq_self_eq_true]
              rfl
            · cases hx : clOk ls with
              | false => rfl
              | true => exact absurd (List.mem_of_mem_take hc) (clOk_iff.1 hx l hml).2
          · have hs : (seenAt (ls.take i) (k : Int) == -l) = false := by
              unfold seenAt
              unfold absI at hk
              simp only [List.contains_eq_mem, decide_eq_true_eq]
              rw [beq_eq_false_iff_ne]
              intro e
              split at e
              · rename_i hm; rw [e] at hm; exact hc hm
              · split at e
                · rename_i hm; rw [e] at hm; exact hc hm
                · omega
            rw [hs]
            refine ⟨.cont (seenR (ls.take (i + 1))), ?_, rfl, ?_⟩
            · simp only [Bool.false_eq_true, if_false, Int.toNat_natCast]
              congr 2
              rw [take_snoc1 hl]
              apply List.ext_getElem?
              intro q
              by_cases hq : q < 13
              · rw [seenR_get _ _ hq, List.getElem?_set, seenAt_snoc ⟨a0, a1, a2⟩ hc hnn q hq, seenR_len, seenR_get _ _ hq]
                by_cases e : k = q
                · subst e; rw [if_pos rfl, if_pos hk13, hk, if_pos rfl]
                · rw [if_neg e, hk, if_neg (by omega)]
              · rw [List.getElem?_eq_none (by rw [List.length_set, seenR_len]; omega), List.getElem?_eq_none (by rw [seenR_len]; omega)]
            · rw [take_snoc1 hl, clOk_iff]
              intro x hx
              rcases List.mem_append.1 hx with hx | hx
              · have := clOk_iff.1 hok x hx
                refine ⟨this.1, fun hm => ?_⟩
                rcases List.mem_append.1 hm with hm | hm
                · exact this.2 hm
                · rw [List.mem_singleton] at hm
                  apply hc
                  rw [← hm, Int.neg_neg]; exact hx
              · rw [List.mem_singleton] at hx
                subst hx
                refine ⟨⟨a0, a1, a2⟩, fun hm => ?_⟩
                rcases List.mem_append.1 hm with hm | hm
                · exact hc hm
                · rw [List.mem_singleton] at hm; omega) (seenR []) ⟨rfl, rfl⟩
    rw [hj, Option.bind_some]
    cases j with
    | out t => obtain ⟨rfl, h⟩ := hQ; rw [h]; rfl
    | nx s =>
      obtain ⟨rfl, h⟩ := hQ
      rw [h]
      simp only [if_true]
      have e : cntF 1 (12 + 1) = some 12 := by rw [cntF_of (s := 1) (by omega) (by omega)]; congr 1
      rw [e, Option.bind_some]
      have := count_to (b := s_ClauseOf_b2 (seenR ls)) (fun i => clT ls (i - 1)) 12 1 (by
        intro i h1 h2
        obtain ⟨n, rfl⟩ : ∃ n, i = n + 1 := ⟨i - 1, by omega⟩
        have hl := clT_len ls n
        rw [s_ClauseOf_b2, idx_nat, seenR_get _ _ (by omega), Option.bind_some]
        simp only [Nat.add_sub_cancel, clT]
        by_cases hz : seenAt ls ((n + 1 : Nat) : Int) = 0
        · have hz' : (seenAt ls ((n + 1 : Nat) : Int) != 0) = false := by simpa using hz
          rw [hz', if_neg (by simp), if_neg (by simpa using hz), List.append_nil]
          rfl
        · have hz' : (seenAt ls ((n + 1 : Nat) : Int) != 0) = true := by simpa using hz
          rw [hz', if_pos rfl, app_le (by simp; omega), if_pos hz]
          rfl)
      have e0 : ([] : List Term) = clT ls (1 - 1) := rfl
      rw [e0, this]
      rfl
  · rw [if_pos (by simp; omega), decide_eq_false h40]
    rfl
end Go.L
namespace Go.L
open Go Go.E
set_option linter.unusedVariables false
set_option linter.unusedSimpArgs false
set_option maxRecDepth 100000
def leA (a b : Int) : Prop := absI a ≤ absI b
theorem i_cmp {a b : Int} (ha : lit12 a) (hb : lit12 b) : i_ClauseOf_1 a b = some (absI a - absI b) := by
  obtain ⟨_, a1, a2⟩ := ha
  obtain ⟨_, b1, b2⟩ := hb
  unfold i_ClauseOf_1 i_variableOf
  rw [i64_id (n := -a) (by omega) (by omega), Option.bind_some, i64_id (n := -b) (by omega) (by omega), Option.bind_some]
  show some (i64 (absI a - absI b)) = _
  rw [i64_id (by unfold absI; omega) (by unfold absI; omega)]
theorem set_mid {α : Type} (pre : List α) (y x z : α) (r : List α) (k : Nat) (hk : k = pre.length) : (pre ++ x :: r).set k y = pre ++ y :: r := by
  subst hk
  rw [List.set_append_right _ _ (Nat.le_refl _), Nat.sub_self, List.set_cons_zero]
theorem ins_loop (a : Int) (ha : a = 0) (x : Int) (hx : lit12 x) (rest : List Int) : ∀ (n : Nat) (pre mid : List Int) (k : Nat), pre.length = n → n < k → pre.length ≤ 100 → (∀ y ∈ pre, lit12 y) →
    ∃ p q, p ++ q = pre ∧ whileL (slices_insertionSortCmpFunc_int_b2 a i_ClauseOf_1) k (pre ++ x :: (mid ++ rest), (n : Int)) = some (.nx (p ++ x :: (q ++ mid ++ rest), (p.length : Int))) ∧ (∀ y ∈ q, absI x < absI y) ∧ (∀ y, p.getLast? = some y → absI y ≤ absI x)
  | 0, pre, mid, k, hn, hk, h1, h2 => by
    obtain ⟨k, rfl⟩ : ∃ k', k = k' + 1 := ⟨k - 1, by omega⟩
    have hp : pre = [] := List.length_eq_zero_iff.1 hn
    subst hp ha
    refine ⟨[], [], rfl, ?_, by simp, by simp⟩
    show (slices_insertionSortCmpFunc_int_b2 0 i_ClauseOf_1 _).bind _ = _
    rw [slices_insertionSortCmpFunc_int_b2]
    simp
  | n + 1, pre, mid, k, hn, hk, h1, h2 => by
    obtain ⟨k, rfl⟩ : ∃ k', k = k' + 1 := ⟨k - 1, by omega⟩
    subst ha
    obtain ⟨pre', y, rfl⟩ : ∃ p y, pre = p ++ [y] := by
      refine ⟨pre.dropLast, pre.getLast (by intro h; subst h; simp at hn), ?_⟩
      exact (List.dropLast_concat_getLast _).symm
    have hl : pre'.length = n := by simpa using hn
    have hy := h2 y (by simp)
    have i1 : idx (pre' ++ [y] ++ x :: (mid ++ rest)) ((n + 1 : Nat) : Int) = some x := by
      rw [idx_nat, List.getElem?_append_right (by simp; omega)]
      simp [hl]
    have i2 : idx (pre' ++ [y] ++ x :: (mid ++ rest)) (i64 (((n + 1 : Nat) : Int) - 1)) = some y := by
      rw [i64_id (by omega) (by omega), show ((n + 1 : Nat) : Int) - 1 = (n : Int) by omega, idx_nat, List.append_assoc, List.getElem?_append_right (by omega), hl, Nat.sub_self]
      rfl
    have ec : (if decide (((n + 1 : Nat) : Int) > 0) then ((idx (pre' ++ [y] ++ x :: (mid ++ rest)) ((n + 1 : Nat) : Int)).bind fun x14 => (idx (pre' ++ [y] ++ x :: (mid ++ rest)) (i64 (((n + 1 : Nat) : Int) - 1))).bind fun x19 => (i_ClauseOf_1 x14 x19).bind fun x22 => some (decide (x22 < 0))) else some false) = some (decide (absI x < absI y)) := by
      rw [if_pos (decide_eq_true (by omega)), i1, Option.bind_some, i2, Option.bind_some, i_cmp hx hy, Option.bind_some]
      congr 1
      by_cases h : absI x < absI y
      · rw [decide_eq_true h, decide_eq_true (by omega)]
      · rw [decide_eq_false h, decide_eq_false (by omega)]
    by_cases hc : absI x < absI y
    · obtain ⟨p, q, e1, e2, e3, e4⟩ := ins_loop 0 rfl x hx rest n pre' (y :: mid) k hl (by omega) (by simp at h1; omega) (fun z hz => h2 z (by simp [hz]))
      refine ⟨p, q ++ [y], by rw [← e1]; simp, ?_, ?_, e4⟩
      · show (slices_insertionSortCmpFunc_int_b2 0 i_ClauseOf_1 _).bind _ = _
        rw [slices_insertionSortCmpFunc_int_b2, ec, Option.bind_some, decide_eq_true hc, if_pos rfl, i2, Option.bind_some, i1, Option.bind_some]
        have s1 : (pre' ++ [y] ++ x :: (mid ++ rest)).set (Int.toNat ((n + 1 : Nat) : Int)) y = pre' ++ [y] ++ y :: (mid ++ rest) := set_mid _ y x x _ _ (by simp; omega)
        have e5 : i64 (((n + 1 : Nat) : Int) - 1) = (n : Int) := by rw [i64_id (by omega) (by omega)]; omega
        rw [s1, e5]
        have i3 : idx (pre' ++ [y] ++ y :: (mid ++ rest)) (n : Int) = some y := by
          rw [idx_nat, List.append_assoc, List.getElem?_append_right (by omega), hl, Nat.sub_self]
          rfl
        rw [i3, Option.bind_some]
        have s2 : (pre' ++ [y] ++ y :: (mid ++ rest)).set (Int.toNat (n : Int)) x = pre' ++ x :: (y :: (mid ++ rest)) := by
          rw [List.append_assoc]
          exact set_mid pre' x y y _ _ (by simp; omega)
        rw [s2]
        show whileL (slices_insertionSortCmpFunc_int_b2 0 i_ClauseOf_1) k (pre' ++ x :: (y :: mid ++ rest), (n : Int)) = _
        rw [e2]
        simp
      · intro z hz
        rcases List.mem_append.1 hz with hz | hz
        · exact e3 z hz
        · rw [List.mem_singleton] at hz; subst hz; exact hc
    · refine ⟨pre' ++ [y], [], by simp, ?_, by simp, ?_⟩
      · show (slices_insertionSortCmpFunc_int_b2 0 i_ClauseOf_1 _).bind _ = _
        rw [slices_insertionSortCmpFunc_int_b2, ec, Option.bind_some, decide_eq_false hc]
        simp [hl]
      · intro z hz
        simp at hz
        subst hz
        omega
def sortedA (xs : List Int) : Prop := xs.Pairwise leA
theorem ins_sorted {p q : List Int} {x : Int} (h : sortedA (p ++ q)) (h1 : ∀ y ∈ q, absI x < absI y) (h2 : ∀ y, p.getLast? = some y → absI y ≤ absI x) : sortedA (p ++ x :: q) := by
  unfold sortedA at *
  rw [List.pairwise_append] at h
  obtain ⟨hp, hq, hpq⟩ := h
  have hpx : ∀ y ∈ p, leA y x := by
    intro y hy
    cases hlast : p.getLast? with
    | none => rw [List.getLast?_eq_none_iff] at hlast; subst hlast; cases hy
    | some z =>
      have hz := h2 z hlast
      have : leA y z := by
        obtain ⟨p', rfl⟩ : ∃ p', p = p' ++ [z] := by
          rw [List.getLast?_eq_some_iff] at hlast
          exact hlast
        rw [List.pairwise_append] at hp
        rcases List.mem_append.1 hy with hy | hy
        · exact hp.2.2 y hy z (by simp)
        · rw [List.mem_singleton] at hy; subst hy; exact Int.le_refl _
      exact Int.le_trans this hz
  rw [List.pairwise_append]
  refine ⟨hp, ?_, ?_⟩
  · rw [List.pairwise_cons]
    exact ⟨fun y hy => Int.le_of_lt (h1 y hy), hq⟩
  · intro y hy z hz
    rcases List.mem_cons.1 hz with rfl | hz
    · exact hpx y hy
    · exact hpq y hy z hz
theorem sort_loop (fu : Nat) (hf : FU ≤ fu) (ls : List Int) (hl : ∀ l ∈ ls, lit12 l) (h12 : ls.length ≤ 12) (h1 : 1 ≤ ls.length) : ∃ r, slices_insertionSortCmpFunc_int fu ls 0 (ls.length : Int) i_ClauseOf_1 = some r ∧ r.Perm ls ∧ sortedA r := by
  unfold FU at hf
  unfold slices_insertionSortCmpFunc_int
  obtain ⟨j, hj, hQ⟩ := while_inv (b := slices_insertionSortCmpFunc_int_b1 fu 0 (ls.length : Int) i_ClauseOf_1)
    (fun n (s : List Int × Int) => ∃ i : Nat, s.2 = (i : Int) ∧ i + n = ls.length ∧ ∃ P, s.1 = P ++ ls.drop i ∧ P.Perm (ls.take i) ∧ sortedA P)
    (fun j => ∃ r k, j = .nx (r, k) ∧ r.Perm ls ∧ sortedA r) (fun n s hI => by
      obtain ⟨d, k⟩ := s
      obtain ⟨i, hk, hi, P, hd, hp, hs⟩ := hI
      simp only at hk hd
      subst hk hd
      cases n with
      | zero =>
        refine ⟨_, by rw [slices_insertionSortCmpFunc_int_b1, if_neg (by simp; omega)], ?_⟩
        have : i = ls.length := by omega
        subst this
        rw [List.take_length] at hp
        exact ⟨_, _, rfl, by simpa using hp, by simpa using hs⟩
      | succ n =>
        have hil : i < ls.length := by omega
        have hdr : ls.drop i = ls[i] :: ls.drop (i + 1) := List.drop_eq_getElem_cons hil
        have hpl : P.length = i := by rw [hp.length_eq]; simp; omega
        have hP : ∀ y ∈ P, lit12 y := fun y hy => hl y (List.mem_of_mem_take (hp.mem_iff.1 hy))
        obtain ⟨p, q, e1, e2, e3, e4⟩ := ins_loop 0 rfl ls[i] (hl _ (List.getElem_mem hil)) (ls.drop (i + 1)) i P [] fu hpl (by omega) (by omega) hP
        refine ⟨.cont (p ++ ls[i] :: (q ++ [] ++ ls.drop (i + 1)), ((i + 1 : Nat) : Int)), ?_, n, by omega, i + 1, rfl, by omega, p ++ ls[i] :: q, by simp, ?_, ?_⟩
        · rw [slices_insertionSortCmpFunc_int_b1, if_pos (decide_eq_true (by omega)), hdr]
          show ((whileL _ fu (P ++ ls[i] :: ([] ++ ls.drop (i + 1)), (i : Int))).bind _) = _
          rw [e2, Option.bind_some]
          simp only
          rw [i64_id (by omega) (by omega)]
          rfl
        · rw [take_snoc1 (List.getElem?_eq_getElem hil)]
          have h1 : (p ++ ls[i] :: q).Perm (ls[i] :: (p ++ q)) := List.perm_middle
          rw [e1] at h1
          refine h1.trans ?_
          have h2 : (ls[i] :: P).Perm (ls[i] :: ls.take i) := hp.cons _
          refine h2.trans ?_
          exact (List.perm_append_singleton _ _).symm
        · rw [← e1] at hs
          exact ins_sorted hs e3 e4)
    fu (ls.length - 1) (ls, i64 (0 + 1)) ⟨1, by simp [i64_id], by omega, ls.take 1, (List.take_append_drop 1 ls).symm, List.Perm.refl _, by
      obtain ⟨a, t, rfl⟩ : ∃ a t, ls = a :: t := by
        cases ls with
        | nil => simp at h1
        | cons a t => exact ⟨a, t, rfl⟩
      simp [sortedA]⟩ (by omega)
  rw [hj]
  obtain ⟨r, k, rfl, h2, h3⟩ := hQ
  exact ⟨r, rfl, h2, h3⟩
theorem sort_all (fu : Nat) (hf : FU ≤ fu) (ls : List Int) (hl : ∀ l ∈ ls, lit12 l) (h12 : ls.length ≤ 12) : ∃ r, slices_SortFunc_int fu ls i_ClauseOf_1 = some r ∧ r.Perm ls ∧ sortedA r := by
  have hF := hf
  unfold FU at hf
  have h0 : ∃ r, slices_insertionSortCmpFunc_int fu ls 0 (ls.length : Int) i_ClauseOf_1 = some r ∧ r.Perm ls ∧ sortedA r := by
    by_cases h1 : 1 ≤ ls.length
    · exact sort_loop fu hF ls hl h12 h1
    · have : ls = [] := List.length_eq_zero_iff.1 (by omega)
      subst this
      refine ⟨[], ?_, List.Perm.refl _, List.Pairwise.nil⟩
      unfold slices_insertionSortCmpFunc_int
      obtain ⟨k, rfl⟩ : ∃ k, fu = k + 1 := ⟨fu - 1, by omega⟩
      have : whileL (slices_insertionSortCmpFunc_int_b1 (k + 1) 0 (([] : List Int).length : Int) i_ClauseOf_1) (k + 1) ([], i64 (0 + 1)) = some (.nx ([], i64 (0 + 1))) := by
        show (slices_insertionSortCmpFunc_int_b1 (k + 1) 0 (([] : List Int).length : Int) i_ClauseOf_1 ([], i64 (0 + 1))).bind _ = _
        rw [slices_insertionSortCmpFunc_int_b1, if_neg (by rw [i64_id (by omega) (by omega)]; simp)]
        rfl
      rw [this]
      rfl
  obtain ⟨r, h1, h2, h3⟩ := h0
  refine ⟨r, ?_, h2, h3⟩
  unfold slices_SortFunc_int
  have hb : bits_Len (IntKind.u64.wrap (ls.length : Int)) = some (Go.Lib.bitLen (IntKind.u64.wrap (ls.length : Int)).toNat : Int) := by
    unfold bits_Len
    have : IntKind.u64.wrap (ls.length : Int) = (ls.length : Int) := by rw [IntKind.wrap_u64]; omega
    rw [this, if_pos (by omega)]
  rw [hb, Option.bind_some]
  unfold slices_pdqsortCmpFunc_int
  obtain ⟨k, rfl⟩ : ∃ k, fu = k + 1 := ⟨fu - 1, by omega⟩
  have : whileL (slices_pdqsortCmpFunc_int_b1 (k + 1) ls 0 (ls.length : Int) i_ClauseOf_1) (k + 1) () = some (.out r) := by
    show (slices_pdqsortCmpFunc_int_b1 (k + 1) ls 0 (ls.length : Int) i_ClauseOf_1 ()).bind _ = _
    rw [slices_pdqsortCmpFunc_int_b1, i64_id (by omega) (by omega), if_pos (decide_eq_true (by omega)), h1]
    rfl
  rw [this]
  rfl
theorem i_containsI (xs : List Int) (v : Int) : slices_Contains_int xs v = some (xs.contains v) := by
  unfold slices_Contains_int slices_Index_int
  obtain ⟨j, h1, h2⟩ := range_index (q := fun x => v == x) (b := slices_Index_int_b1 v) xs (fun i x hx => by rw [slices_Index_int_b1]; cases v == x <;> rfl)
  rw [h1]
  have e : (xs.any fun x => v == x) = xs.contains v := by
    rw [List.contains_eq_any_beq]
  cases j with
  | nx u => simp only at h2; rw [← e, h2]; rfl
  | out t => simp only at h2; rw [← e, h2.2]; simp [h2.1]
theorem compact_id (ls : List Int) (hl : ls.length ≤ 1000) (h : ∀ i a b, ls[i]? = some a → ls[i + 1]? = some b → b ≠ a) : slices_Compact_int ls = some ls := by
  unfold slices_Compact_int
  by_cases h2 : ls.length < 2
  · rw [if_pos (decide_eq_true (by omega))]
  · rw [if_neg (by simp; omega), cntF_of (s := 1) (by omega) (by omega), Option.bind_some]
    have := count_to (b := slices_Compact_int_b1 ls) (fun _ => ()) ((ls.length : Int) - (1 : Nat)).toNat 1 (by
      intro i h1 h3
      obtain ⟨n, rfl⟩ : ∃ n, i = n + 1 := ⟨i - 1, by omega⟩
      have hn : n + 1 < ls.length := by omega
      have e1 : ls[n]? = some ls[n] := List.getElem?_eq_getElem (by omega)
      have e2 : ls[n + 1]? = some ls[n + 1] := List.getElem?_eq_getElem hn
      have hne := h n _ _ e1 e2
      have e3 : (ls[n + 1] == ls[n]) = false := by rw [beq_eq_false_iff_ne]; exact hne
      rw [slices_Compact_int_b1, idx_nat, e2, Option.bind_some, i64_id (by omega) (by omega), show ((n + 1 : Nat) : Int) - 1 = (n : Int) by omega, idx_nat, e1, Option.bind_some, e3]
      rfl)
    rw [this]
    rfl
def strictA (xs : List Int) : Prop := xs.Pairwise fun a b => absI a < absI b
theorem filter_split (n : Int) : ∀ (xs : List Int), strictA xs → xs.filter (fun l => decide (absI l ≤ n + 1)) = xs.filter (fun l => decide (absI l ≤ n)) ++ xs.filter (fun l => decide (absI l = n + 1))
  | [], _ => rfl
  | x :: xs, h => by
    unfold strictA at h
    rw [List.pairwise_cons] at h
    have ih := filter_split n xs h.2
    have tl : ∀ m : Int, m < absI x → xs.filter (fun l => decide (absI l ≤ m)) = [] := fun m hm => by
      rw [List.filter_eq_nil_iff]
      intro y hy
      have := h.1 y hy
      simp; omega
    have cp : ∀ (p : Int → Bool), p x = true → (x :: xs).filter p = x :: xs.filter p := fun p hp => by rw [List.filter_cons, if_pos hp]
    have cn : ∀ (p : Int → Bool), p x = false → (x :: xs).filter p = xs.filter p := fun p hp => by rw [List.filter_cons, hp]; rfl
    by_cases h1 : absI x ≤ n
    · rw [cp (fun l => decide (absI l ≤ n + 1)) (decide_eq_true (by omega)), cp (fun l => decide (absI l ≤ n)) (decide_eq_true h1), cn (fun l => decide (absI l = n + 1)) (decide_eq_false (by omega)), ih, List.cons_append]
    · rw [cn (fun l => decide (absI l ≤ n)) (decide_eq_false h1)]
      rw [tl n (by omega), List.nil_append] at ih ⊢
      by_cases h2 : absI x = n + 1
      · rw [cp (fun l => decide (absI l ≤ n + 1)) (decide_eq_true (by omega)), cp (fun l => decide (absI l = n + 1)) (decide_eq_true h2), ih]
      · rw [cn (fun l => decide (absI l ≤ n + 1)) (decide_eq_false (by omega)), cn (fun l => decide (absI l = n + 1)) (decide_eq_false h2), ih]
theorem filter_one (v : Int) (hv : 0 < v) : ∀ (xs : List Int), strictA xs → (∀ x ∈ xs, lit12 x) → xs.filter (fun l => decide (absI l = v)) = (if seenAt xs v ≠ 0 then [seenAt xs v] else [])
  | [], _, _ => by simp [seenAt]
  | x :: xs, h, hl => by
    unfold strictA at h
    rw [List.pairwise_cons] at h
    have hx := hl x (by simp)
    obtain ⟨x0, _, _⟩ := hx
    rw [List.filter_cons]
    by_cases h1 : absI x = v
    · have e1 : xs.filter (fun l => decide (absI l = v)) = [] := by
        rw [List.filter_eq_nil_iff]
        intro y hy
        have := h.1 y hy
        simp; omega
      have hn : ∀ y ∈ xs, absI y ≠ v := fun y hy => by have := h.1 y hy; omega
      have hs : seenAt (x :: xs) v = x := by
        unfold seenAt
        unfold absI at h1
        simp only [List.contains_eq_mem, List.mem_cons, decide_eq_true_eq]
        by_cases hp : x > 0
        · have : v = x := by omega
          rw [if_pos (.inl this), this]
        · have e : v = -x := by omega
          have n1 : ¬ (v = x ∨ v ∈ xs) := by
            rintro (h | h)
            · omega
            · have := hn v h; unfold absI at this; omega
          rw [if_neg n1, if_pos (.inl (by omega))]
          omega
      rw [if_pos (decide_eq_true h1), e1, hs, if_pos x0]
    · have hs : seenAt (x :: xs) v = seenAt xs v := by
        unfold seenAt
        unfold absI at h1
        simp only [List.contains_eq_mem, List.mem_cons, decide_eq_true_eq]
        have n1 : (v = x ∨ v ∈ xs) ↔ v ∈ xs := ⟨fun h => h.elim (fun h => by exfalso; omega) id, .inr⟩
        have n2 : (-v = x ∨ -v ∈ xs) ↔ -v ∈ xs := ⟨fun h => h.elim (fun h => by exfalso; omega) id, .inr⟩
        simp only [n1, n2]
      rw [if_neg (by simpa using h1), hs]
      exact filter_one v hv xs h.2 fun y hy => hl y (by simp [hy])
theorem clT_filter (xs : List Int) (h : strictA xs) (hl : ∀ x ∈ xs, lit12 x) : ∀ n : Nat, clT xs n = (xs.filter fun l => decide (absI l ≤ (n : Int))).map fun l => (⟨1, l⟩ : Term)
  | 0 => by
    have : xs.filter (fun l => decide (absI l ≤ ((0 : Nat) : Int))) = [] := by
      rw [List.filter_eq_nil_iff]
      intro y hy
      have := (hl y hy).1
      unfold absI
      simp; omega
    rw [clT, this]; rfl
  | n + 1 => by
    rw [clT, clT_filter xs h hl n, show ((n + 1 : Nat) : Int) = (n : Int) + 1 by omega, filter_split (n : Int) xs h, List.map_append, filter_one ((n : Int) + 1) (by omega) xs h hl]
    congr 1
    split <;> rfl
theorem clT_sorted (xs : List Int) (h : strictA xs) (hl : ∀ x ∈ xs, lit12 x) : clT xs 12 = xs.map fun l => (⟨1, l⟩ : Term) := by
  rw [clT_filter xs h hl]
  congr 1
  rw [List.filter_eq_self]
  intro x hx
  obtain ⟨_, h1, h2⟩ := hl x hx
  unfold absI
  simp; omega
theorem seenAt_perm {xs ys : List Int} (h : ∀ x, x ∈ xs ↔ x ∈ ys) (v : Int) : seenAt xs v = seenAt ys v := by
  unfold seenAt
  simp only [List.contains_eq_mem, h]
theorem clT_perm {xs ys : List Int} (h : ∀ x, x ∈ xs ↔ x ∈ ys) : ∀ n, clT xs n = clT ys n
  | 0 => rfl
  | n + 1 => by rw [clT, clT, clT_perm h n, seenAt_perm h]
theorem nodup_at {α β : Type} (f : α → β) : ∀ (ls : List α) (i j : Nat) (a b : α), (ls.map f).Nodup → i < j → ls[i]? = some a → ls[j]? = some b → f a ≠ f b
  | x :: xs, 0, j + 1, a, b, h, _, ha, hb => by
    rw [List.map_cons, List.nodup_cons] at h
    simp only [List.getElem?_cons_zero, Option.some.injEq, List.getElem?_cons_succ] at ha hb
    subst ha
    intro e
    exact h.1 (by rw [e]; exact List.mem_map_of_mem (List.mem_of_getElem? hb))
  | x :: xs, i + 1, j + 1, a, b, h, hij, ha, hb => by
    rw [List.map_cons, List.nodup_cons] at h
    simp only [List.getElem?_cons_succ] at ha hb
    exact nodup_at f xs i j a b h.2 (by omega) ha hb
def distinctA (ls : List Int) : Prop := (ls.map absI).Nodup
theorem strict_of {xs : List Int} (h : sortedA xs) (hd : distinctA xs) : strictA xs := by
  unfold sortedA strictA distinctA at *
  induction xs with
  | nil => exact List.Pairwise.nil
  | cons x xs ih =>
    rw [List.pairwise_cons] at *
    rw [List.map_cons, List.nodup_cons] at hd
    refine ⟨fun y hy => ?_, ih h.2 hd.2⟩
    have h1 := h.1 y hy
    unfold leA at h1
    have h2 : absI x ≠ absI y := fun e => hd.1 (by rw [e]; exact List.mem_map_of_mem hy)
    omega
theorem distinct_ok {ls : List Int} (hl : ∀ l ∈ ls, lit12 l) (hd : distinctA ls) : clOk ls = true := by
  rw [clOk_iff]
  intro l h
  refine ⟨hl l h, fun hn => ?_⟩
  unfold distinctA at hd
  have hne : -l ≠ l := by have := (hl l h).1; omega
  obtain ⟨i, hi⟩ := List.getElem?_of_mem h
  obtain ⟨j, hj⟩ := List.getElem?_of_mem hn
  have hij : i ≠ j := by intro e; subst e; rw [hi] at hj; injection hj with hj; exact hne hj.symm
  have hil := (List.getElem?_eq_some_iff.1 hi).1
  have hjl := (List.getElem?_eq_some_iff.1 hj).1
  rcases Nat.lt_or_ge i j with hlt | hge
  · exact nodup_at absI ls i j l (-l) hd hlt hi hj (absI_neg l).symm
  · exact nodup_at absI ls j i (-l) l hd (by omega) hj hi (absI_neg l)
theorem i_clause (fu : Nat) (hf : FU ≤ fu) (ls : List Int) (hl : ∀ l ∈ ls, lit12 l) (hd : distinctA ls) (h12 : ls.length ≤ 12) : i_ClauseOf fu ls = some (clC ls, true) := by
  have hok := distinct_ok hl hd
  unfold i_ClauseOf
  rw [if_neg (by simp; omega), range_all (fun l => litOk l && !ls.contains (-l)) (zeroC', false) ls fun i l hli => by
    have hm := List.mem_of_getElem? hli
    have hlo := litOk_iff.2 (hl l hm)
    have h1 : i_isLiteral l = some true := by
      unfold i_isLiteral i_within
      unfold litOk at hlo
      rw [Bool.and_eq_true] at hlo
      rw [hlo.1]
      simp [hlo.2]
    have hl' := hl l hm
    rw [i_ClauseOf_b1, h1, i_containsI, i64_id (by have := hl'.2.2; omega) (by have := hl'.2.1; omega), hlo]
    cases ls.contains (-l) <;> rfl, Option.bind_some]
  have hall : (ls.all fun l => litOk l && !ls.contains (-l)) = true := hok
  rw [hall]
  simp only [if_true]
  rw [i_clone_int ls (by omega), Option.bind_some]
  obtain ⟨r, h1, h2, h3⟩ := sort_all fu hf ls hl h12
  have hdr : distinctA r := by
    unfold distinctA at *
    exact (h2.map absI).nodup_iff.2 hd
  have hrl : ∀ x ∈ r, lit12 x := fun x hx => hl x (h2.mem_iff.1 hx)
  have hst := strict_of h3 hdr
  have hlen := h2.length_eq
  rw [h1, Option.bind_some, compact_id r (by omega) (by
    intro i a b ha hb e
    subst e
    have hil := (List.getElem?_eq_some_iff.1 ha).1
    have hjl := (List.getElem?_eq_some_iff.1 hb).1
    unfold distinctA at hdr
    exact nodup_at absI r i (i + 1) b b hdr (by omega) ha hb rfl), Option.bind_some]
  have := range_map (b := i_ClauseOf_b2) (fun l => (⟨1, l⟩ : Term)) r fun i x out hx hlo => by
    have hi := (List.getElem?_eq_some_iff.1 hx).1
    rw [i_ClauseOf_b2, app_le (by simp; omega)]
    rfl
  rw [this, Option.bind_some, ← clT_sorted r hst hrl, clT_perm (fun x => h2.mem_iff)]
  rfl
end Go.L
namespace Go.L
open Go Go.E
set_option linter.unusedVariables false
set_option linter.unusedSimpArgs false
set_option maxRecDepth 100000
structure Dec (d : List Int) : Prop where
  lit : ∀ l ∈ d, lit12 l
  dis : distinctA d
  few : d.length + zer (asgL zeroP d) ≤ 12
theorem Dec.nil : Dec [] := ⟨by simp, by simp [distinctA], by decide⟩
theorem clT_any {ls : List Int} (h : clOk ls = true) (v : List Bool) : ∀ n : Nat, 0 ≤ sumV v (clT ls n) ∧ (1 ≤ sumV v (clT ls n) ↔ ∃ l ∈ ls, absI l ≤ (n : Int) ∧ trueL v l = true)
  | 0 => by
    refine ⟨by simp [clT, sumV, sumR], ?_⟩
    constructor
    · intro h1; simp [clT, sumV, sumR] at h1
    · rintro ⟨l, hl, h1, _⟩
      have := ((clOk_iff.1 h) l hl).1.1
      unfold absI at h1; omega
  | n + 1 => by
    obtain ⟨h0, h1⟩ := clT_any h v n
    have hs : ∀ l ∈ ls, absI l = ((n + 1 : Nat) : Int) → seenAt ls ((n + 1 : Nat) : Int) = l := by
      intro l hl e
      obtain ⟨⟨l0, _, _⟩, hn⟩ := (clOk_iff.1 h) l hl
      unfold seenAt
      unfold absI at e
      simp only [List.contains_eq_mem, decide_eq_true_eq]
      by_cases hp : l > 0
      · have : ((n + 1 : Nat) : Int) = l := by omega
        rw [this, if_pos hl]
      · have e1 : ((n + 1 : Nat) : Int) = -l := by omega
        rw [e1, if_neg hn, Int.neg_neg, if_pos hl]
    have hm : seenAt ls ((n + 1 : Nat) : Int) ≠ 0 → seenAt ls ((n + 1 : Nat) : Int) ∈ ls ∧ absI (seenAt ls ((n + 1 : Nat) : Int)) = ((n + 1 : Nat) : Int) := by
      unfold seenAt
      simp only [List.contains_eq_mem, decide_eq_true_eq]
      split
      · rename_i e; intro _; exact ⟨e, by unfold absI; omega⟩
      · split
        · rename_i e; intro _; exact ⟨e, by unfold absI; omega⟩
        · intro h; exact absurd rfl h
    rw [clT]
    by_cases e : seenAt ls ((n + 1 : Nat) : Int) ≠ 0
    · rw [if_pos e, sumV_snoc]
      obtain ⟨m1, m2⟩ := hm e
      simp only
      by_cases ht : trueL v (seenAt ls ((n + 1 : Nat) : Int)) = true
      · rw [if_pos ht]
        exact ⟨by omega, fun _ => ⟨_, m1, by omega, ht⟩, fun _ => by omega⟩
      · rw [if_neg ht]
        refine ⟨h0, h1.trans ⟨?_, ?_⟩⟩
        · rintro ⟨l, a1, a2, a3⟩; exact ⟨l, a1, by omega, a3⟩
        · rintro ⟨l, a1, a2, a3⟩
          refine ⟨l, a1, ?_, a3⟩
          by_cases ee : absI l = ((n + 1 : Nat) : Int)
          · rw [hs l a1 ee] at ht; exact absurd a3 ht
          · omega
    · rw [if_neg e, List.append_nil]
      refine ⟨h0, h1.trans ⟨?_, ?_⟩⟩
      · rintro ⟨l, a1, a2, a3⟩; exact ⟨l, a1, by omega, a3⟩
      · rintro ⟨l, a1, a2, a3⟩
        refine ⟨l, a1, ?_, a3⟩
        by_cases ee : absI l = ((n + 1 : Nat) : Int)
        · rw [hs l a1 ee] at e
          have := ((clOk_iff.1 h) l a1).1.1
          omega
        · omega
theorem clC_eval {ls : List Int} (h : clOk ls = true) (v : List Bool) : evalC (clC ls) v = ls.any (trueL v) := by
  unfold evalC clC
  rw [Bool.eq_iff_iff, decide_eq_true_eq, List.any_eq_true]
  refine ((clT_any h v 12).2).trans ⟨?_, ?_⟩
  · rintro ⟨l, a1, a2, a3⟩; exact ⟨l, a1, a3⟩
  · rintro ⟨l, a1, a3⟩
    refine ⟨l, a1, ?_, a3⟩
    obtain ⟨_, h1, h2⟩ := ((clOk_iff.1 h) l a1).1
    unfold absI; omega
theorem okTerms_snoc' {t : Term} (ht : okT t = true) {n : Int} (hn : n < absI t.lit) : ∀ (xs : List Term) (b : Int), okTerms b xs = true → (∀ x ∈ xs, absI x.lit ≤ n) → b ≤ n → okTerms b (xs ++ [t]) = true
  | [], b, _, _, hb => by
    show (okT t && decide (b < absI t.lit)) && true = true
    rw [ht, decide_eq_true (by omega)]; rfl
  | x :: xs, b, h, hx, hb => by
    rw [okTerms, Bool.and_eq_true, Bool.and_eq_true] at h
    show ((okT x && decide (b < absI x.lit)) && okTerms (absI x.lit) (xs ++ [t])) = true
    rw [h.1.1, h.1.2, okTerms_snoc' ht hn xs _ h.2 (fun y hy => hx y (by simp [hy])) (hx x (by simp))]; rfl
theorem clT_ok {ls : List Int} (h : clOk ls = true) : ∀ n : Nat, n ≤ 12 → okTerms 0 (clT ls n) = true ∧ ∀ t ∈ clT ls n, absI t.lit ≤ (n : Int)
  | 0, _ => ⟨rfl, by simp [clT]⟩
  | n + 1, hn => by
    obtain ⟨h1, h2⟩ := clT_ok h n (by omega)
    rw [clT]
    by_cases e : seenAt ls ((n + 1 : Nat) : Int) ≠ 0
    · rw [if_pos e]
      have e2 : absI (seenAt ls ((n + 1 : Nat) : Int)) = ((n + 1 : Nat) : Int) := by
        revert e
        unfold seenAt
        split
        · intro _; unfold absI; omega
        · split
          · intro _; unfold absI; omega
          · intro h; exact absurd rfl h
      have e3 : okT ⟨1, seenAt ls ((n + 1 : Nat) : Int)⟩ = true := by
        revert e e2
        generalize seenAt ls ((n + 1 : Nat) : Int) = a
        intro e e2
        unfold absI at e2
        unfold okT
        simp
        omega
      refine ⟨okTerms_snoc' e3 (n := (n : Int)) (by simp only [e2]; omega) _ 0 h1 h2 (by omega), ?_⟩
      intro t ht
      rcases List.mem_append.1 ht with ht | ht
      · have := h2 t ht; omega
      · rw [List.mem_singleton] at ht; subst ht; simp only [e2]; omega
    · rw [if_neg e, List.append_nil]
      exact ⟨h1, fun t ht => by have := h2 t ht; omega⟩
theorem clC_ok {ls : List Int} (h : clOk ls = true) : okCon (clC ls) = true := by
  unfold okCon clC
  simp only [(clT_ok h 12 (by omega)).1]
  rfl
end Go.L
namespace Go.L
open Go Go.E
set_option linter.unusedVariables false
set_option linter.unusedSimpArgs false
set_option maxRecDepth 100000
theorem all_closed {v : List Bool} (hv : v.length = 12) {list : List Con} (hc : ∀ c ∈ list, okCon c = true) (ha : allV list v = true) : ∀ c ∈ list, okCon c = true ∧ Closed (ofV v) c := by
  intro c h
  unfold allV at ha
  rw [List.all_eq_true] at ha
  exact ⟨hc c h, (closed_ofV hv (hc c h)).2 (ha c h)⟩
theorem getD_at {α : Type} {xs : List α} {k : Nat} (z : α) (h : k < xs.length) : xs.getD k z = xs[k] := by
  rw [List.getD_eq_getElem?_getD, List.getElem?_eq_getElem h]; rfl
end Go.L
namespace Go.L
open Go Go.E
set_option linter.unusedVariables false
set_option linter.unusedSimpArgs false
set_option maxRecDepth 100000
theorem Dec.len {d : List Int} (h : Dec d) : d.length ≤ 12 := by have := h.few; omega
end Go.L
namespace Go.L
open Go Go.E
set_option linter.unusedVariables false
set_option linter.unusedSimpArgs false
set_option maxRecDepth 100000
end Go.L
namespace Go.L
open Go Go.E
set_option linter.unusedVariables false
set_option linter.unusedSimpArgs false
set_option maxRecDepth 100000
end Go.L
namespace Go.L
open Go Go.E
set_option linter.unusedVariables false
set_option linter.unusedSimpArgs false
set_option maxRecDepth 100000
end Go.L
namespace Go.L
open Go Go.E
set_option linter.unusedVariables false
set_option linter.unusedSimpArgs false
set_option maxRecDepth 100000
end Go.L
namespace Go.L
open Go Go.E
set_option linter.unusedVariables false
set_option linter.unusedSimpArgs false
set_option maxRecDepth 100000
end Go.L
namespace Go.L
open Go Go.E
set_option linter.unusedVariables false
set_option linter.unusedSimpArgs false
set_option maxRecDepth 100000
theorem distinct_nodup {xs : List Int} : distinct xs = true ↔ xs.Nodup := by
  unfold distinct List.Nodup
  rw [allFrom_iff, List.pairwise_iff_getElem]
  constructor
  · intro h i j hi hj hij e
    have := h j xs[j] (List.getElem?_eq_getElem hj)
    simp only [Bool.not_eq_true', List.contains_eq_mem, decide_eq_false_iff_not] at this
    exact this (by rw [← e, List.mem_take_iff_getElem]; exact ⟨i, by omega, rfl⟩)
  · intro h j x hx
    simp only [Bool.not_eq_true', List.contains_eq_mem, decide_eq_false_iff_not]
    intro hm
    obtain ⟨hj, rfl⟩ := List.getElem?_eq_some_iff.1 hx
    obtain ⟨i, hi, e⟩ := List.mem_take_iff_getElem.1 hm
    exact h i j (by omega) hj (by omega) e
theorem filter_le_one {xs : List Int} (h : xs.Nodup) (v : Int) : (xs.filter (· == v)).length ≤ 1 := by
  induction xs with
  | nil => simp
  | cons x xs ih =>
    rw [List.nodup_cons] at h
    rw [List.filter_cons]
    split
    · rename_i e
      have e : x = v := by simpa using e
      subst e
      have : xs.filter (· == x) = [] := by
        rw [List.filter_eq_nil_iff]
        intro y hy
        simp
        intro e
        subst e
        exact h.1 hy
      rw [this]; simp
    · exact ih h.2
theorem nodup_len : ∀ (n : Nat) (xs : List Int), xs.Nodup → (∀ x ∈ xs, 0 ≤ x ∧ x < (n : Int)) → xs.length ≤ n
  | 0, xs, _, h => by
    cases xs with
    | nil => simp
    | cons x xs => have := h x (by simp); omega
  | n + 1, xs, hn, h => by
    have h1 := filter_le_one hn (n : Int)
    have h2 := nodup_len n (xs.filter fun x => !(x == (n : Int))) (List.Pairwise.filter _ hn) (by
      intro x hx
      rw [List.mem_filter] at hx
      have := h x hx.1
      have h3 : x ≠ (n : Int) := by simpa using hx.2
      omega)
    have h3 : xs.length = (xs.filter (· == (n : Int))).length + (xs.filter fun x => !(x == (n : Int))).length := by
      have := List.length_eq_countP_add_countP (· == (n : Int)) (l := xs)
      rw [List.countP_eq_length_filter, List.countP_eq_length_filter] at this
      rw [this]
      congr 2
      apply List.filter_congr
      intro x _
      cases x == (n : Int) <;> simp
    omega
theorem okVars_len {n : Nat} {xs : List Int} (h : okVars n xs = true) : xs.length ≤ n := by
  obtain ⟨h1, h2⟩ := okVars_iff.1 h
  exact nodup_len n xs (distinct_nodup.1 h2) h1
def sizeAt (m : Model) (i : Nat) : Nat := (m.sizes.getD i 0).toNat
def varsC (m : Model) (i : Nat) : List Int := (List.range (sizeAt m i + 1)).map fun (v : Nat) => boolVar m i (v : Int)
theorem sizeAt_eq {m : Model} {i : Nat} {x : Int} (hx : m.sizes[i]? = some x) : sizeAt m i = x.toNat := by
  unfold sizeAt
  rw [List.getD_eq_getElem?_getD, hx]; rfl
theorem size_ok {m : Model} (hok : okModel m = true) {i : Nat} (hi : i < m.sizes.length) : m.sizes[i] = (sizeAt m i : Int) ∧ sizeAt m i ≤ 3 := by
  have := sizes_get (okModel_parts hok).2.2.1 hi
  rw [sizeAt_eq (List.getElem?_eq_getElem hi)]
  omega
theorem var_range {m : Model} (hok : okModel m = true) {i : Nat} (hi : i < m.sizes.length) {v : Nat} (hv : v ≤ sizeAt m i) : 1 ≤ boolVar m i v ∧ boolVar m i v ≤ 12 := by
  have := size_ok hok hi
  have h := boolVar_range hok hi (v := (v : Int)) ⟨by omega, by omega⟩
  omega
theorem varsC_pos {m : Model} (hok : okModel m = true) {i : Nat} (hi : i < m.sizes.length) : ∀ x ∈ varsC m i, 1 ≤ x ∧ x ≤ 12 := by
  intro x hx
  obtain ⟨v, hv, rfl⟩ := List.mem_map.1 hx
  rw [List.mem_range] at hv
  exact var_range hok hi (by omega)
theorem varsC_len (m : Model) (i : Nat) : (varsC m i).length = sizeAt m i + 1 := by simp [varsC]
theorem varsC_sorted (m : Model) (i : Nat) : (varsC m i).Pairwise (· < ·) := by
  unfold varsC
  rw [List.pairwise_map]
  refine List.Pairwise.imp ?_ List.pairwise_lt_range
  intro a b h
  unfold boolVar
  omega
theorem pos_abs {vs : List Int} (h : ∀ x ∈ vs, 1 ≤ x ∧ x ≤ 12) : vs.map absI = vs := by
  conv => rhs; rw [← List.map_id vs]
  apply List.map_congr_left
  intro x hx
  have := h x hx
  unfold absI
  simp; omega
theorem lt_nodup {vs : List Int} (h : vs.Pairwise (· < ·)) : vs.Nodup := h.imp fun hab e => by omega
theorem pos_lit {vs : List Int} (h : ∀ x ∈ vs, 1 ≤ x ∧ x ≤ 12) : ∀ x ∈ vs, lit12 x := fun x hx => by
  have := h x hx
  exact ⟨by omega, by omega, by omega⟩
theorem pos_dis {vs : List Int} (h : ∀ x ∈ vs, 1 ≤ x ∧ x ≤ 12) (hn : vs.Nodup) : distinctA vs := by
  unfold distinctA; rw [pos_abs h]; exact hn
def mostC (vs : List Int) : Con := ⟨vs.map fun x => ⟨1, -x⟩, (vs.length : Int) - 1⟩
theorem most_loop {τ : Type} {b : Nat → Int → List Term → Option (Lo (List Term) τ)} (hb : ∀ i x out, b i x out = (app out ([({ coef := 1, lit := i64 (-x) } : Term)])).bind fun y => some (.cont y)) {vs : List Int} (hv : ∀ x ∈ vs, 1 ≤ x ∧ x ≤ 12) (hl : vs.length ≤ 20) : rangeL b vs 0 [] = some (.nx (vs.map fun x => ⟨1, -x⟩)) :=
  range_map (fun x => (⟨1, -x⟩ : Term)) vs fun i x out hx ho => by
    have hi := (List.getElem?_eq_some_iff.1 hx).1
    have := hv x (List.mem_of_getElem? hx)
    rw [hb, app_le (by simp; omega), i64_id (by omega) (by omega)]; rfl
theorem s_most {vs : List Int} (hv : ∀ x ∈ vs, 1 ≤ x ∧ x ≤ 12) (hl : vs.length ≤ 20) : s_l7Most vs = some (mostC vs) := by
  unfold s_l7Most
  rw [most_loop (b := s_l7Most_b1) (fun _ _ _ => rfl) hv hl, Option.bind_some]
  show some (Con.mk _ (i64 _)) = _
  rw [i64_id (by omega) (by omega)]; rfl
theorem i_most {vs : List Int} (hv : ∀ x ∈ vs, 1 ≤ x ∧ x ≤ 12) (hl : vs.length ≤ 20) : i_atMostOne vs = some (mostC vs) := by
  unfold i_atMostOne
  rw [most_loop (b := i_atMostOne_b1) (fun _ _ _ => rfl) hv hl, Option.bind_some]
  show some (Con.mk _ (i64 _)) = _
  rw [i64_id (by omega) (by omega)]; rfl
def cellE (m : Model) (i : Nat) : List Con := [clC (varsC m i), mostC (varsC m i)]
theorem s_clauseD {ls : List Int} (hl : ∀ l ∈ ls, lit12 l) (hd : distinctA ls) (h40 : ls.length ≤ 40) : s_ClauseOf ls = some (clC ls, true) := by
  rw [s_clause]
  unfold clauseP
  rw [distinct_ok hl hd, decide_eq_true h40]; rfl
theorem s_cell {m : Model} (hok : okModel m = true) {i : Nat} {x : Int} (hx : m.sizes[i]? = some x) : s_l7Cell m (i : Int) = some (cellE m i) := by
  obtain ⟨h1, h5, ha, _⟩ := okModel_parts hok
  obtain ⟨hi, hxe⟩ := List.getElem?_eq_some_iff.1 hx
  have hs := size_ok hok hi
  have hp := varsC_pos hok hi
  have hlen := varsC_len m i
  unfold s_l7Cell
  rw [idx_lt hi, Option.bind_some, hs.1]
  have hk : cntF 0 ((sizeAt m i : Int) + 1) = some (sizeAt m i + 1) := by rw [cntF_of (by omega) (by omega)]; congr 1
  rw [hk, Option.bind_some]
  have h := count_to (b := s_l7Cell_b1 m (i : Int)) (fun j => (List.range j).map fun (v : Nat) => boolVar m i (v : Int)) (sizeAt m i + 1) 0 (by
    intro j _ hj
    have hvar := s_var m i (j : Int) (by omega) h5 ha ⟨by omega, by omega⟩
    show (s_l7Var m (i : Int) (j : Int)).bind _ = _
    rw [hvar, Option.bind_some, app_le (by simp; omega), List.range_succ, List.map_append]
    rfl)
  rw [Nat.zero_add] at h
  rw [show countL (s_l7Cell_b1 m (i : Int)) (sizeAt m i + 1) 0 [] = _ from h, Option.bind_some]
  show (s_ClauseOf (varsC m i)).bind _ = _
  rw [s_clauseD (pos_lit hp) (pos_dis hp (lt_nodup (varsC_sorted m i))) (by omega), Option.bind_some]
  show (s_l7Most (varsC m i)).bind _ = _
  rw [s_most hp (by omega)]
  rfl
def cellsE (m : Model) (n : Nat) : List Con := (List.range n).flatMap (cellE m)
theorem cellsE_succ (m : Model) (n : Nat) : cellsE m (n + 1) = cellsE m n ++ cellE m n := by
  unfold cellsE
  rw [List.range_succ, List.flatMap_append, List.flatMap_singleton]
theorem cellsE_len (m : Model) : ∀ n, (cellsE m n).length = 2 * n
  | 0 => rfl
  | n + 1 => by rw [cellsE_succ, List.length_append, cellsE_len m n]; rfl
theorem s_cellsE {m : Model} (hok : okModel m = true) : rangeL (s_EncodeModel_b1 m) m.sizes 0 [] = some (.nx (cellsE m m.sizes.length)) := by
  have h5 := (okModel_parts hok).2.1
  exact range_to (b := s_EncodeModel_b1 m) (fun i => cellsE m i) m.sizes fun i x hx => by
    have hi := (List.getElem?_eq_some_iff.1 hx).1
    have := cellsE_len m i
    rw [s_EncodeModel_b1, s_cell hok hx, Option.bind_some, app_le (by simp [cellE]; omega), cellsE_succ]; rfl
theorem i_cellsE (fu : Nat) (hf : FU ≤ fu) {m : Model} (hok : okModel m = true) : rangeL (i_EncodeModel_b1 fu m) m.sizes 0 [] = some (.nx (cellsE m m.sizes.length)) := by
  have h5 := (okModel_parts hok).2.1
  exact range_to (b := i_EncodeModel_b1 fu m) (fun i => cellsE m i) m.sizes fun i x hx => by
    have hi := (List.getElem?_eq_some_iff.1 hx).1
    have := cellsE_len m i
    have hs := size_ok hok hi
    have hp := varsC_pos hok hi
    have hlen := varsC_len m i
    have e : (List.range (x.toNat + 1)).map (fun (v : Nat) => boolVar m i (v : Int)) = varsC m i := by unfold varsC; rw [sizeAt_eq hx]
    rw [i_EncodeModel_b1, i_varsOf hok hx, Option.bind_some, e, i_clause fu hf _ (pos_lit hp) (pos_dis hp (lt_nodup (varsC_sorted m i))) (by omega), Option.bind_some, i_most hp (by omega), Option.bind_some, app_le (by simp; omega), cellsE_succ]; rfl
def sortI (vs : List Int) : List Int := vs.mergeSort
theorem sortI_perm (vs : List Int) : (sortI vs).Perm vs := List.mergeSort_perm vs _
theorem sortI_sorted (vs : List Int) : (sortI vs).Pairwise (· ≤ ·) := by
  have := List.pairwise_mergeSort (le := fun (a b : Int) => decide (a ≤ b)) (fun a b c h1 h2 => by simp at *; omega) (fun a b => by simp; omega) vs
  exact this.imp fun h => by simpa using h
theorem sorted_uniq : ∀ {a b : List Int}, a.Perm b → a.Pairwise (· ≤ ·) → b.Pairwise (· ≤ ·) → a = b
  | [], b, h, _, _ => (List.nil_perm.1 h).symm
  | x :: a, [], h, _, _ => by simp at h
  | x :: a, y :: b, h, ha, hb => by
    rw [List.pairwise_cons] at ha hb
    have e : x = y := by
      have h1 : x ∈ y :: b := h.mem_iff.1 (by simp)
      have h2 : y ∈ x :: a := h.mem_iff.2 (by simp)
      rcases List.mem_cons.1 h1 with h1 | h1
      · exact h1
      · rcases List.mem_cons.1 h2 with h2 | h2
        · exact h2.symm
        · have := hb.1 x h1; have := ha.1 y h2; omega
    subst e
    rw [sorted_uniq (List.Perm.cons_inv h) ha.2 hb.2]
end Go.L
