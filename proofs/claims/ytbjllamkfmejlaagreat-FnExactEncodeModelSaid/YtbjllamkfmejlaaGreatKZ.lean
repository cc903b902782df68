/- The plain law: what the functions compute, and that it answers as the statement says. -/
import Derived.Test.YtbjllamkfmejlaaGreatG10
import Derived.Test.YtbjllamkfmejlaaGreatD1
namespace Go.L
open Go Go.E
set_option linter.unusedVariables false
def FU : Nat := 1000000
def ML : Nat := 9223372036854775807
section
variable {α β σ τ : Type}
theorem idx_nat (xs : List α) (i : Nat) : idx xs (i : Int) = xs[i]? := by
  unfold idx; rw [if_pos (Int.natCast_nonneg i), Int.toNat_natCast]
theorem idx_lt {xs : List α} {i : Nat} (h : i < xs.length) : idx xs (i : Int) = some xs[i] := by rw [idx_nat, List.getElem?_eq_getElem h]
theorem idx_get {xs : List α} {k : Int} (h0 : 0 ≤ k) (h : k.toNat < xs.length) : idx xs k = some xs[k.toNat] := by
  unfold idx; rw [if_pos h0, List.getElem?_eq_getElem h]
theorem mkN_le {n : Nat} (x : α) (h : n ≤ 4294967296) : mkN (n : Int) x = some (List.replicate n x) := by
  unfold mkN
  rw [if_pos (by omega), Int.toNat_natCast]
theorem sl_pre {xs : List α} {i : Nat} (h : i ≤ xs.length) : sl xs 0 (i : Int) = some (xs.take i) := by
  unfold sl
  rw [if_pos (by omega), Int.toNat_natCast]
  rfl
theorem app_le {xs ys : List α} (h : xs.length + ys.length ≤ 4294967296) : app xs ys = some (xs ++ ys) := if_pos h
theorem cntF_nat {n : Nat} (h : n ≤ 4294967296) : cntF 0 (n : Int) = some n := by
  unfold cntF
  rw [if_pos (by omega)]
  congr 1
theorem cntF_of {s : Nat} {e : Int} (h : e ≤ 4294967296) (hs : s ≤ 4294967296) : cntF s e = some (e - s).toNat := if_pos ⟨h, hs⟩
theorem count_range (b : Nat → σ → Option (Lo σ τ)) : ∀ (n i j : Nat) (s : σ), countL b n i s = rangeL (fun _ k s => b k s) (List.range' i n) j s
  | 0, i, j, s => rfl
  | n + 1, i, j, s => by
    show (b i s).bind _ = rangeL _ (List.range' i (n + 1)) j s
    rw [List.range'_succ]
    show _ = (b i s).bind _
    congr 1
    funext o
    cases o with
    | cont s' => exact count_range b n (i + 1) (j + 1) s'
    | brk s' => rfl
    | out t => rfl
theorem range_to {b : Nat → α → σ → Option (Lo σ τ)} (F : Nat → σ) (xs0 : List α) (h : ∀ i x, xs0[i]? = some x → b i x (F i) = some (.cont (F (i + 1)))) :
    rangeL b xs0 0 (F 0) = some (.nx (F xs0.length)) := by
  have key : ∀ (xs : List α) (i : Nat), xs0.drop i = xs → i ≤ xs0.length → rangeL b xs i (F i) = some (.nx (F xs0.length)) := by
    intro xs
    induction xs with
    | nil =>
      intro i hd hi
      rw [List.drop_eq_nil_iff] at hd
      obtain rfl : i = xs0.length := by omega
      rfl
    | cons x xs ih =>
      intro i hd hi
      have hx := drop_idx hd
      rw [idx_nat] at hx
      show (b i x (F i)).bind _ = _
      rw [h i x hx]
      exact ih (i + 1) (drop_next hd) (List.getElem?_eq_some_iff.1 hx).1
  exact key xs0 0 rfl (Nat.zero_le _)
theorem count_to {b : Nat → σ → Option (Lo σ τ)} (F : Nat → σ) : ∀ (n s : Nat), (∀ i, s ≤ i → i < s + n → b i (F i) = some (.cont (F (i + 1)))) → countL b n s (F s) = some (.nx (F (s + n)))
  | 0, s, _ => rfl
  | n + 1, s, h => by
    show (b s (F s)).bind _ = _
    rw [h s (Nat.le_refl _) (by omega)]
    show countL b n (s + 1) (F (s + 1)) = _
    rw [count_to F n (s + 1) fun i h1 h2 => h i (by omega) (by omega)]
    congr 3; omega
theorem range_inv {b : Nat → α → σ → Option (Lo σ τ)} (xs0 : List α) (I : Nat → σ → Prop) (Q : Jn σ τ → Prop) (h0 : ∀ s, I xs0.length s → Q (.nx s))
    (h : ∀ i x s, xs0[i]? = some x → I i s → ∃ o, b i x s = some o ∧ (match o with | .cont s' => I (i + 1) s' | .brk s' => Q (.nx s') | .out t => Q (.out t))) (s : σ) (hs : I 0 s) :
    ∃ j, rangeL b xs0 0 s = some j ∧ Q j := by
  have key : ∀ (xs : List α) (i : Nat) (s : σ), xs0.drop i = xs → i ≤ xs0.length → I i s → ∃ j, rangeL b xs i s = some j ∧ Q j := by
    intro xs
    induction xs with
    | nil =>
      intro i s hd hi hI
      rw [List.drop_eq_nil_iff] at hd
      obtain rfl : i = xs0.length := by omega
      exact ⟨_, rfl, h0 s hI⟩
    | cons x xs ih =>
      intro i s hd hi hI
      have hx := drop_idx hd
      rw [idx_nat] at hx
      obtain ⟨o, hb, ho⟩ := h i x s hx hI
      have hl := (List.getElem?_eq_some_iff.1 hx).1
      cases o with
      | cont s' =>
        obtain ⟨j, hj, hQ⟩ := ih (i + 1) s' (drop_next hd) hl ho
        exact ⟨j, by show (b i x s).bind _ = _; rw [hb]; exact hj, hQ⟩
      | brk s' => exact ⟨_, by show (b i x s).bind _ = _; rw [hb]; rfl, ho⟩
      | out t => exact ⟨_, by show (b i x s).bind _ = _; rw [hb]; rfl, ho⟩
  exact key xs0 0 s rfl (Nat.zero_le _) hs
theorem count_inv {b : Nat → σ → Option (Lo σ τ)} (I : Nat → σ → Prop) (Q : Jn σ τ → Prop) : ∀ (n k : Nat) (h0 : ∀ s, I (k + n) s → Q (.nx s))
    (h : ∀ i s, k ≤ i → i < k + n → I i s → ∃ o, b i s = some o ∧ (match o with | .cont s' => I (i + 1) s' | .brk s' => Q (.nx s') | .out t => Q (.out t))) (s : σ) (hs : I k s),
    ∃ j, countL b n k s = some j ∧ Q j
  | 0, k, h0, h, s, hs => ⟨_, rfl, h0 s hs⟩
  | n + 1, k, h0, h, s, hs => by
    obtain ⟨o, hb, ho⟩ := h k s (Nat.le_refl _) (by omega) hs
    cases o with
    | cont s' =>
      obtain ⟨j, hj, hQ⟩ := count_inv I Q n (k + 1) (fun s hs => h0 s (by rwa [show k + (n + 1) = k + 1 + n from by omega])) (fun i s h1 h2 => h i s (by omega) (by omega)) s' ho
      exact ⟨j, by show (b k s).bind _ = _; rw [hb]; exact hj, hQ⟩
    | brk s' => exact ⟨_, by show (b k s).bind _ = _; rw [hb]; rfl, ho⟩
    | out t => exact ⟨_, by show (b k s).bind _ = _; rw [hb]; rfl, ho⟩
theorem while_inv {b : σ → Option (Lo σ τ)} (I : Nat → σ → Prop) (Q : Jn σ τ → Prop)
    (h : ∀ n s, I n s → ∃ o, b s = some o ∧ (match o with | .cont s' => ∃ m, m < n ∧ I m s' | .brk s' => Q (.nx s') | .out t => Q (.out t))) :
    ∀ k n s, I n s → n < k → ∃ j, whileL b k s = some j ∧ Q j := by
  intro k
  induction k with
  | zero => intro n s _ h; omega
  | succ k ih =>
    intro n s hI hk
    obtain ⟨o, hb, ho⟩ := h n s hI
    cases o with
    | cont s' =>
      obtain ⟨m, hm, hI'⟩ := ho
      obtain ⟨j, hj, hQ⟩ := ih m s' hI' (by omega)
      exact ⟨j, by show (b s).bind _ = _; rw [hb]; exact hj, hQ⟩
    | brk s' => exact ⟨_, by show (b s).bind _ = _; rw [hb]; rfl, ho⟩
    | out t => exact ⟨_, by show (b s).bind _ = _; rw [hb]; rfl, ho⟩
def allFrom (q : Nat → α → Bool) : List α → Nat → Bool
  | [], _ => true
  | x :: xs, i => q i x && allFrom q xs (i + 1)
theorem allFrom_const (q : α → Bool) : ∀ (xs : List α) (i : Nat), allFrom (fun _ x => q x) xs i = xs.all q
  | [], _ => rfl
  | x :: xs, i => by rw [allFrom, allFrom_const q xs, List.all_cons]
theorem allFrom_iff (q : Nat → α → Bool) : ∀ (xs : List α) (k : Nat), allFrom q xs k = true ↔ ∀ i x, xs[i]? = some x → q (k + i) x = true
  | [], k => by simp [allFrom]
  | x :: xs, k => by
    rw [allFrom, Bool.and_eq_true, allFrom_iff q xs (k + 1)]
    constructor
    · rintro ⟨h0, h⟩ i y hy
      cases i with
      | zero => simp at hy; subst hy; simpa using h0
      | succ i => have := h i y (by simpa using hy); rwa [show k + 1 + i = k + (i + 1) from by omega] at this
    · intro h
      exact ⟨by simpa using h 0 x rfl, fun i y hy => by have := h (i + 1) y (by simpa using hy); rwa [show k + (i + 1) = k + 1 + i from by omega] at this⟩
theorem range_allI (q : Nat → α → Bool) (t : τ) {b : Nat → α → Unit → Option (Lo Unit τ)} (xs0 : List α)
    (hb : ∀ (i : Nat) (x : α), xs0[i]? = some x → b i x () = some (if q i x then .cont () else .out t)) : rangeL b xs0 0 () = some (if allFrom q xs0 0 then .nx () else .out t) := by
  have key : ∀ (xs : List α) (i : Nat), xs0.drop i = xs → rangeL b xs i () = some (if allFrom q xs i then .nx () else .out t) := by
    intro xs
    induction xs with
    | nil => intro i _; rfl
    | cons x xs ih =>
      intro i h
      have hx := drop_idx h
      rw [idx_nat] at hx
      show (b i x ()).bind _ = _
      rw [hb i x hx]
      cases hq : q i x with
      | true => show rangeL b xs (i + 1) () = _; rw [ih (i + 1) (drop_next h)]; simp [allFrom, hq]
      | false => simp [allFrom, hq]
  exact key xs0 0 rfl
theorem range_all (q : α → Bool) (t : τ) {b : Nat → α → Unit → Option (Lo Unit τ)} (xs0 : List α)
    (hb : ∀ (i : Nat) (x : α), xs0[i]? = some x → b i x () = some (if q x then .cont () else .out t)) : rangeL b xs0 0 () = some (if xs0.all q then .nx () else .out t) := by
  rw [range_allI (fun _ => q) t xs0 hb, allFrom_const]
theorem range_any (q : α → Bool) (t : τ) {b : Nat → α → Unit → Option (Lo Unit τ)} (xs0 : List α)
    (hb : ∀ (i : Nat) (x : α), xs0[i]? = some x → b i x () = some (if q x then .out t else .cont ())) : rangeL b xs0 0 () = some (if xs0.any q then .out t else .nx ()) := by
  rw [range_all (fun x => !q x) t xs0 fun i x hx => by rw [hb i x hx]; cases q x <;> rfl]
  rw [List.any_eq_not_all_not]
  cases xs0.all (fun x => !q x) <;> rfl
theorem any_not_all (q : α → Bool) (xs : List α) : xs.any (fun x => !q x) = !xs.all q := by
  induction xs with
  | nil => rfl
  | cons x xs ih => rw [List.any_cons, List.all_cons, ih]; cases q x <;> cases xs.all q <;> rfl
theorem range_map {b : Nat → α → List β → Option (Lo (List β) τ)} (f : α → β) (xs0 : List α) (h : ∀ i x out, xs0[i]? = some x → out.length = i → b i x out = some (.cont (out ++ [f x]))) :
    rangeL b xs0 0 [] = some (.nx (xs0.map f)) := by
  have := range_to (b := b) (fun i => (xs0.take i).map f) xs0 (by
    intro i x hx
    have hi := (List.getElem?_eq_some_iff.1 hx).1
    rw [h i x _ hx (by simp; omega)]
    rw [List.take_add_one, hx]
    simp)
  simpa using this
theorem ite_false' {a b : α} : (if false = true then a else b) = b := rfl
theorem range_index {q : α → Bool} {b : Nat → α → Unit → Option (Lo Unit Int)} (xs0 : List α) (hb : ∀ i x, xs0[i]? = some x → b i x () = some (if q x then .out (i : Int) else .cont ())) :
    ∃ j, rangeL b xs0 0 () = some j ∧ (match j with | .nx _ => xs0.any q = false | .out t => 0 ≤ t ∧ xs0.any q = true) := by
  refine range_inv xs0 (fun i _ => (xs0.take i).any q = false) _ ?_ ?_ () (by simp)
  · intro s h; simpa using h
  · intro i x s hx hI
    have hi := (List.getElem?_eq_some_iff.1 hx).1
    refine ⟨_, hb i x hx, ?_⟩
    cases hq : q x with
    | true => exact ⟨by omega, List.any_eq_true.2 ⟨x, List.mem_of_getElem? hx, hq⟩⟩
    | false =>
      show (xs0.take (i + 1)).any q = false
      rw [List.take_add_one, hx, List.any_append, hI]
      simp [hq]
end
end Go.L
namespace Go.L
open Go Go.E
set_option linter.unusedVariables false
set_option linter.unusedSimpArgs false
set_option maxRecDepth 100000
section
variable {α β σ τ : Type}
end
end Go.L
namespace Go.L
open Go Go.E
set_option linter.unusedVariables false
def SzOk (r left : Int) (good : Prop) : Prop := r < 0 ∨ (0 ≤ r ∧ r ≤ left ∧ good)
theorem sz_len {α : Type} {a : List α} {left : Int} {one : Option Int} (e : one = if decide ((i64 (left - (a.length : Int))) < 0) then (some (-1)) else (some (i64 (left - (a.length : Int))))) (h0 : 0 ≤ left) (h1 : left ≤ 1048576) (ha : a.length ≤ ML) :
    ∃ r, one = some r ∧ SzOk r left (a.length ≤ 1048576) := by
  rw [e]
  unfold ML at ha
  rw [i64_id (by omega) (by omega)]
  by_cases h : left - (a.length : Int) < 0
  · exact ⟨-1, by rw [if_pos (by simpa using h)], .inl (by omega)⟩
  · exact ⟨left - a.length, by rw [if_neg (by simpa using h)], .inr ⟨by omega, by omega, by omega⟩⟩
theorem sz_list {α : Type} {one : α → Int → Option Int} {good : α → Prop} {a : List α} {left : Int} {b : Nat → α → Int → Option (Lo Int Int)} {all : Option Int}
    (e : all = if decide ((i64 (left - (a.length : Int))) < 0) then (some (-1)) else (((rangeL b a 0 (i64 (left - (a.length : Int)))) : Option (Jn Int Int)).bind fun j => match j with | .nx l => (some l) | .out t => some t))
    (hb : ∀ i x l, b i x l = (one x l).bind fun r => if decide (r < 0) then some (.out (-1)) else some (.cont r)) (h0 : 0 ≤ left) (h1 : left ≤ 1048576) (ha : a.length ≤ ML)
    (hone : ∀ x ∈ a, ∀ l, 0 ≤ l → l ≤ 1048576 → ∃ r, one x l = some r ∧ SzOk r l (good x)) :
    ∃ r, all = some r ∧ SzOk r left (a.length ≤ 1048576 ∧ ∀ x ∈ a, good x) := by
  rw [e]
  unfold ML at ha
  rw [i64_id (by omega) (by omega)]
  by_cases h : left - (a.length : Int) < 0
  · exact ⟨-1, by rw [if_pos (by simpa using h)], .inl (by omega)⟩
  · rw [if_neg (by simpa using h)]
    obtain ⟨j, hj, hQ⟩ := range_inv (b := b) a (fun i l => 0 ≤ l ∧ l ≤ left - (a.length : Int) ∧ ∀ x ∈ a.take i, good x)
      (fun j => match j with | .nx l => 0 ≤ l ∧ l ≤ left - (a.length : Int) ∧ ∀ x ∈ a, good x | .out t => t = -1) (fun s hs => by simpa using hs)
      (by
        rintro i x l hx ⟨hl0, hl1, hg⟩
        obtain ⟨r, hr, hok⟩ := hone x (List.mem_of_getElem? hx) l hl0 (by omega)
        rw [hb, hr]
        rcases hok with hn | ⟨p0, p1, p2⟩
        · exact ⟨.out (-1), by simp [hn], rfl⟩
        · refine ⟨.cont r, by simp; omega, p0, by omega, ?_⟩
          intro y hy
          rw [List.take_add_one, hx] at hy
          rcases List.mem_append.1 hy with h | h
          · exact hg y h
          · simp at h; rw [h]; exact p2) (left - a.length) ⟨by omega, by omega, by simp⟩
    rw [hj]
    cases j with
    | nx l => exact ⟨l, rfl, .inr ⟨hQ.1, by have := hQ.2.1; omega, by omega, hQ.2.2⟩⟩
    | out t => exact ⟨t, rfl, .inl (by rw [show t = -1 from hQ]; omega)⟩
theorem sz_then {o : Option Int} {k : Int → Option Int} {left : Int} {p q : Prop} (h : ∃ r, o = some r ∧ SzOk r left p) (h1 : left ≤ 1048576)
    (hk : ∀ r, 0 ≤ r → r ≤ 1048576 → ∃ r', k r = some r' ∧ SzOk r' r q) : ∃ r, (o.bind fun x => if decide (x < 0) then some (-1) else k x) = some r ∧ SzOk r left (p ∧ q) := by
  obtain ⟨r, rfl, hok⟩ := h
  rcases hok with hn | ⟨p0, p1, p2⟩
  · exact ⟨-1, by simp [hn], .inl (by omega)⟩
  · obtain ⟨r', hr', hok'⟩ := hk r p0 (by omega)
    refine ⟨r', ?_, ?_⟩
    · rw [Option.bind_some, if_neg (by simp; omega), hr']
    · rcases hok' with hn | ⟨q0, q1, q2⟩
      · exact .inl hn
      · exact .inr ⟨q0, by omega, p2, q2⟩
theorem sz_end {o : Option Int} {left : Int} {p : Prop} (h : ∃ r, o = some r ∧ SzOk r left p) : ∃ r, (o.bind fun x => if decide (x < 0) then some (-1) else some x) = some r ∧ SzOk r left p := by
  obtain ⟨r, rfl, hok⟩ := h
  rcases hok with hn | ⟨p0, p1, p2⟩
  · exact ⟨-1, by simp [hn], .inl (by omega)⟩
  · exact ⟨r, by rw [Option.bind_some, if_neg (by simp; omega)], .inr ⟨p0, p1, p2⟩⟩
theorem sz_law {o : Option Int} {left : Int} {p : Prop} {k : Int → Option Bool} (h : ∃ r, o = some r ∧ SzOk r left p) (h1 : left ≤ 1048576) (hk : ∀ r, 0 ≤ r → r ≤ 1048576 → p → k r = some true) :
    (o.bind fun x => if decide (x < 0) then some true else k x) = some true := by
  obtain ⟨r, rfl, hok⟩ := h
  rcases hok with hn | ⟨p0, p1, p2⟩
  · simp [hn]
  · rw [Option.bind_some, if_neg (by simp; omega)]
    exact hk r p0 (by omega) p2
theorem copy_list {α : Type} {one : α → Option α} {xs : List α} {z : α} {b : Nat → α → List α → Option (Lo (List α) (List α))} {all : Option (List α)} {k : Jn (List α) (List α) → Option (List α)}
    (e : all = (mkN (xs.length : Int) z).bind fun x1 => (rangeL b xs 0 x1).bind k) (hk : ∀ out, k (.nx out) = some out) (hx : xs.length ≤ 1048576)
    (hb : ∀ i x out, b i x out = (one x).bind fun y => (idx out (i : Int)).bind fun _ => some (.cont (out.set (Int.toNat (i : Int)) y))) (hone : ∀ x ∈ xs, one x = some x) : all = some xs := by
  rw [e, mkN_le z (by omega), Option.bind_some]
  have := range_to (b := b) (fun i => xs.take i ++ List.replicate (xs.length - i) z) xs (by
    intro i x hx
    have hi := (List.getElem?_eq_some_iff.1 hx).1
    rw [hb, hone x (List.mem_of_getElem? hx), Option.bind_some, idx_nat, List.getElem?_append_right (by simp; omega)]
    have hl : (xs.take i).length = i := by simp; omega
    rw [hl, Nat.sub_self, List.getElem?_replicate, if_pos (by omega), Option.bind_some, Int.toNat_natCast]
    congr 2
    rw [List.set_append, if_neg (by rw [hl]; omega), hl, Nat.sub_self, show xs.length - i = (xs.length - (i + 1)) + 1 from by omega, List.replicate_succ, List.set_cons_zero]
    rw [List.take_add_one, hx]
    simp)
  simp only [List.take_zero, List.nil_append, Nat.sub_zero] at this
  rw [this]
  simp [hk]
theorem same_list {α : Type} {one : α → α → Option Bool} {xs : List α} {b : Nat → α → Unit → Option (Lo Unit Bool)} {all : Option Bool} {k : Jn Unit Bool → Option Bool}
    (e : all = if ((xs.length : Int) != (xs.length : Int)) then (some false) else ((rangeL b xs 0 ()).bind k)) (hk : k (.nx ()) = some true)
    (hb : ∀ i x, xs[i]? = some x → b i x () = (one x x).bind fun y => if (!y) then some (.out false) else some (.cont ())) (hone : ∀ x ∈ xs, one x x = some true) : all = some true := by
  rw [e, if_neg (by simp)]
  have h := range_all (fun _ => true) false (b := b) xs (fun i x hx => by rw [hb i x hx, hone x (List.mem_of_getElem? hx)]; rfl)
  rw [h]
  simp [hk]
theorem idx_self {α : Type} {xs : List α} {i : Nat} {x : α} (h : xs[i]? = some x) : idx xs (i : Int) = some x := by rw [idx_nat, h]
theorem szIntS (a : List Int) (left : Int) (h0 : 0 ≤ left) (h1 : left ≤ 1048576) (ha : a.length ≤ ML) : ∃ r, l_szIntS a left = some r ∧ SzOk r left (a.length ≤ 1048576) := sz_len rfl h0 h1 ha
theorem szIntSS (a : List (List Int)) (left : Int) (h0 : 0 ≤ left) (h1 : left ≤ 1048576) (ha : a.length ≤ ML) (hel : ∀ x ∈ a, x.length ≤ ML) :
    ∃ r, l_szIntSS a left = some r ∧ SzOk r left (a.length ≤ 1048576 ∧ ∀ x ∈ a, x.length ≤ 1048576) :=
  sz_list (one := l_szIntS) rfl (fun _ _ _ => rfl) h0 h1 ha fun x hx l h0 h1 => szIntS x l h0 h1 (hel x hx)
theorem toIntS (a : List Int) (ha : a.length ≤ 1048576) : l_toIntS a = some a := copy_list (one := some) (b := l_toIntS_b1) (z := 0) rfl (fun _ => rfl) ha (by intros; rfl) fun _ _ => rfl
theorem toIntSS (a : List (List Int)) (ha : a.length ≤ 1048576) (hel : ∀ x ∈ a, x.length ≤ 1048576) : l_toIntSS a = some a :=
  copy_list (one := l_toIntS) (b := l_toIntSS_b1) (z := []) rfl (fun _ => rfl) ha (by intros; rfl) fun x hx => toIntS x (hel x hx)
theorem eqIntS (a : List Int) : l_eqIntS a a = some true :=
  same_list (one := fun x y => some (x == y)) rfl rfl (fun i x hx => by show (idx a (i : Int)).bind _ = _; rw [idx_self hx]; simp) fun _ _ => by simp
theorem eqIntSS (a : List (List Int)) : l_eqIntSS a a = some true :=
  same_list (one := l_eqIntS) rfl rfl (fun i x hx => by show (idx a (i : Int)).bind _ = _; rw [idx_self hx]; rfl) fun x _ => eqIntS x
def lenR (r : Rule) : Prop := r.vars.length ≤ ML ∧ r.coefs.length ≤ ML ∧ r.rows.length ≤ ML ∧ ∀ x ∈ r.rows, x.length ≤ ML
def smallR (r : Rule) : Prop := r.vars.length ≤ 1048576 ∧ r.coefs.length ≤ 1048576 ∧ r.rows.length ≤ 1048576 ∧ ∀ x ∈ r.rows, x.length ≤ 1048576
def lenM (m : Model) : Prop := m.sizes.length ≤ ML ∧ m.rules.length ≤ ML ∧ ∀ r ∈ m.rules, lenR r
def smallM (m : Model) : Prop := m.sizes.length ≤ 1048576 ∧ m.rules.length ≤ 1048576 ∧ ∀ r ∈ m.rules, smallR r
theorem szRule (a : Rule) (left : Int) (h0 : 0 ≤ left) (h1 : left ≤ 1048576) (ha : lenR a) : ∃ r, l_szRule a left = some r ∧ SzOk r left (smallR a) := by
  unfold l_szRule
  obtain ⟨r, e, h⟩ := sz_then (szIntS a.vars left h0 h1 ha.1) h1 fun r p0 p1 => sz_then (szIntS a.coefs r p0 p1 ha.2.1) p1 fun r p0 p1 => sz_end (szIntSS a.rows r p0 p1 ha.2.2.1 ha.2.2.2)
  exact ⟨r, e, h⟩
theorem szRuleS (a : List Rule) (left : Int) (h0 : 0 ≤ left) (h1 : left ≤ 1048576) (ha : a.length ≤ ML) (hel : ∀ x ∈ a, lenR x) :
    ∃ r, l_szRuleS a left = some r ∧ SzOk r left (a.length ≤ 1048576 ∧ ∀ x ∈ a, smallR x) :=
  sz_list (one := l_szRule) rfl (fun _ _ _ => rfl) h0 h1 ha fun x hx l h0 h1 => szRule x l h0 h1 (hel x hx)
theorem szModel (a : Model) (left : Int) (h0 : 0 ≤ left) (h1 : left ≤ 1048576) (ha : lenM a) : ∃ r, l_szModel a left = some r ∧ SzOk r left (smallM a) := by
  unfold l_szModel
  exact sz_then (szIntS a.sizes left h0 h1 ha.1) h1 fun r p0 p1 => sz_end (szRuleS a.rules r p0 p1 ha.2.1 ha.2.2)
theorem toRule (a : Rule) (h : smallR a) : l_toRule a = some a := by
  unfold l_toRule
  rw [toIntS _ h.1, Option.bind_some, toIntS _ h.2.1, Option.bind_some, toIntSS _ h.2.2.1 h.2.2.2]
  rfl
theorem toRuleS (a : List Rule) (ha : a.length ≤ 1048576) (hel : ∀ x ∈ a, smallR x) : l_toRuleS a = some a :=
  copy_list (one := l_toRule) (b := l_toRuleS_b1) (z := { kind := 0, vars := [], coefs := [], bound := 0, rows := [] }) rfl (fun _ => rfl) ha (by intros; rfl) fun x hx => toRule x (hel x hx)
theorem toModel (a : Model) (h : smallM a) : l_toModel a = some a := by
  unfold l_toModel
  rw [toIntS _ h.1, Option.bind_some, toRuleS _ h.2.1 h.2.2]
  rfl
theorem eqRule (a : Rule) : l_eqRule a a = some true := by
  unfold l_eqRule
  simp [eqIntS, eqIntSS]
theorem eqRuleS (a : List Rule) : l_eqRuleS a a = some true :=
  same_list (one := l_eqRule) rfl rfl (fun i x hx => by show (idx a (i : Int)).bind _ = _; rw [idx_self hx]; rfl) fun x _ => eqRule x
theorem eqModel (a : Model) : l_eqModel a a = some true := by
  unfold l_eqModel
  simp [eqIntS, eqRuleS]
theorem lenM_of {m : Model} (h : gModel m) : lenM m := ⟨h.1.1, h.2.1, fun r hr => ⟨(h.2.2 r hr).2.1.1, (h.2.2 r hr).2.2.1.1, (h.2.2 r hr).2.2.2.2.1, fun x hx => ((h.2.2 r hr).2.2.2.2.2 x hx).1⟩⟩
end Go.L
namespace Go.L
open Go Go.E
set_option linter.unusedVariables false
theorem within_eq (n lo hi : Int) : i_within n lo hi = some (decide (lo ≤ n) && decide (n ≤ hi)) := rfl
theorem containsInt (s : List Int) (v : Int) : slices_Contains_int s v = some (s.contains v) := by
  obtain ⟨j, h1, h2⟩ := range_index (q := fun x => v == x) (b := slices_Index_int_b1 v) s (fun i x _ => by show (if _ then _ else _) = _; cases v == x <;> rfl)
  unfold slices_Contains_int slices_Index_int
  rw [h1]
  have hc : s.contains v = s.any (fun x => v == x) := by
    rw [Bool.eq_iff_iff]; simp
  rw [hc]
  cases j with
  | nx u => simp only at h2; rw [h2]; rfl
  | out t => simp only at h2; rw [h2.2]; simp [h2.1]
theorem containsFuncInt (s : List Int) (p : Int → Option Bool) (q : Int → Bool) (hp : ∀ x ∈ s, p x = some (q x)) : slices_ContainsFunc_int s p = some (s.any q) := by
  obtain ⟨j, h1, h2⟩ := range_index (q := q) (b := slices_IndexFunc_int_b1 p) s (fun i x hx => by show (p x).bind _ = _; rw [hp x (List.mem_of_getElem? hx)]; show (if _ then _ else _) = _; cases q x <;> rfl)
  unfold slices_ContainsFunc_int slices_IndexFunc_int
  rw [h1]
  cases j with
  | nx u => simp only at h2; rw [h2]; rfl
  | out t => simp only at h2; rw [h2.2]; simp [h2.1]
theorem containsFuncSint (s : List (List Int)) (p : List Int → Option Bool) (q : List Int → Bool) (hp : ∀ x ∈ s, p x = some (q x)) : slices_ContainsFunc_Sint s p = some (s.any q) := by
  obtain ⟨j, h1, h2⟩ := range_index (q := q) (b := slices_IndexFunc_Sint_b1 p) s (fun i x hx => by show (p x).bind _ = _; rw [hp x (List.mem_of_getElem? hx)]; show (if _ then _ else _) = _; cases q x <;> rfl)
  unfold slices_ContainsFunc_Sint slices_IndexFunc_Sint
  rw [h1]
  cases j with
  | nx u => simp only at h2; rw [h2]; rfl
  | out t => simp only at h2; rw [h2.2]; simp [h2.1]
theorem containsFuncRule (s : List Rule) (p : Rule → Option Bool) (q : Rule → Bool) (hp : ∀ x ∈ s, p x = some (q x)) : slices_ContainsFunc_implRule s p = some (s.any q) := by
  obtain ⟨j, h1, h2⟩ := range_index (q := q) (b := slices_IndexFunc_implRule_b1 p) s (fun i x hx => by show (p x).bind _ = _; rw [hp x (List.mem_of_getElem? hx)]; show (if _ then _ else _) = _; cases q x <;> rfl)
  unfold slices_ContainsFunc_implRule slices_IndexFunc_implRule
  rw [h1]
  cases j with
  | nx u => simp only at h2; rw [h2]; rfl
  | out t => simp only at h2; rw [h2.2]; simp [h2.1]
def gqVars (n : Nat) (xs : List Int) : Nat → Int → Bool := fun i x => decide (0 ≤ x) && decide (x < (n : Int)) && !(xs.take i).contains x
def okVars (n : Nat) (xs : List Int) : Bool := allFrom (gqVars n xs) xs 0
theorem notin_all (xs : List Int) (v : Int) : (!xs.contains v) = xs.all (fun y => !(y == v)) := by
  rw [Bool.eq_iff_iff]
  simp only [Bool.not_eq_true', List.all_eq_true, beq_eq_false_iff_ne, ne_eq]
  constructor
  · intro h y hy e; subst e; simp [hy] at h
  · intro h; simp; intro hv; exact h v hv rfl
theorem count_notin {τ : Type} (xs : List Int) (v : Int) (t : τ) (i : Nat) (hi : i ≤ xs.length) {b : Nat → Unit → Option (Lo Unit τ)}
    (hb : ∀ k, k < i → b k () = (idx xs (k : Int)).bind fun x => if (x == v) then (some (.out t)) else (some (.cont ()))) :
    countL b i 0 () = some (if !(xs.take i).contains v then .nx () else .out t) := by
  obtain ⟨j, hj, hQ⟩ := count_inv (b := b) (fun k _ => (xs.take k).all (fun y => !(y == v)) = true) (fun j => j = if (xs.take i).all (fun y => !(y == v)) then .nx () else .out t) i 0
    (by intro s h; rw [Nat.zero_add] at h; rw [h]; rfl)
    (by
      intro k s _ hk hI
      have hk' : k < xs.length := by omega
      rw [hb k (by omega), idx_lt hk', Option.bind_some]
      cases hx : xs[k] == v with
      | true =>
        refine ⟨.out t, rfl, ?_⟩
        have : (xs.take i).all (fun y => !(y == v)) = false := by
          rw [List.all_eq_false]
          exact ⟨xs[k], List.mem_iff_getElem.2 ⟨k, by simp; omega, by simp⟩, by simpa using hx⟩
        rw [this]; rfl
      | false =>
        refine ⟨.cont (), rfl, ?_⟩
        rw [List.take_add_one, List.getElem?_eq_getElem hk', List.all_append, hI]
        simp [hx]) () rfl
  rw [hj, hQ, notin_all]
theorem s_vars (m : Model) (xs : List Int) (hx : xs.length ≤ 1048576) : s_l6Vars m xs = some (okVars m.sizes.length xs && decide ((xs.length : Int) ≥ 1)) := by
  unfold s_l6Vars
  rw [range_allI (gqVars m.sizes.length xs) false xs]
  · unfold okVars
    cases allFrom (gqVars m.sizes.length xs) xs 0 <;> rfl
  · intro i x hix
    have hi := (List.getElem?_eq_some_iff.1 hix).1
    show (if _ then _ else _) = _
    rw [cntF_nat (by omega), Option.bind_some, count_notin xs x (.out false) i (by omega) fun k hk => rfl]
    unfold gqVars
    have e1 : decide (x < 0) = !decide (0 ≤ x) := by rw [← decide_not, decide_eq_decide]; omega
    have e2 : decide (x ≥ (m.sizes.length : Int)) = !decide (x < (m.sizes.length : Int)) := by rw [← decide_not, decide_eq_decide]; omega
    rw [e1, e2]
    cases decide (0 ≤ x) <;> cases decide (x < (m.sizes.length : Int)) <;> cases (xs.take i).contains x <;> rfl
theorem i_vars (r : Rule) (n : Nat) (hn : n ≤ ML) : rangeL (i_ruleValid_b1 r (n : Int)) r.vars 0 () = some (if okVars n r.vars then .nx () else .out false) := by
  refine range_allI (gqVars n r.vars) false r.vars ?_
  intro i x hxi
  have hi : i < r.vars.length := (List.getElem?_eq_some_iff.1 hxi).1
  show ((i_within x 0 (i64 ((n : Int) - 1))).bind _ : Option (Lo Unit Bool)) = _
  have hn' : (n : Int) ≤ 9223372036854775807 := by unfold ML at hn; omega
  rw [i64_id (by omega) (by omega), within_eq, Option.bind_some, sl_pre (by omega), Option.bind_some, containsInt]
  unfold gqVars
  have e : decide (x ≤ (n : Int) - 1) = decide (x < (n : Int)) := by rw [decide_eq_decide]; omega
  rw [e]
  cases decide (0 ≤ x) <;> cases decide (x < (n : Int)) <;> cases (r.vars.take i).contains x <;> rfl
def qCoef (x : Int) : Bool := decide (-9 ≤ x) && decide (x ≤ 9) && !(x == 0)
theorem s_linear (r : Rule) : s_l6Linear r = some (r.coefs.all qCoef && ((((r.coefs.length : Int) == (r.vars.length : Int)) && decide (r.bound ≥ -1000)) && decide (r.bound ≤ 1000))) := by
  unfold s_l6Linear
  rw [range_all qCoef false r.coefs]
  · cases r.coefs.all qCoef <;> rfl
  · intro i x hix
    show (if _ then _ else _) = _
    unfold qCoef
    have e1 : decide (x < -9) = !decide (-9 ≤ x) := by rw [← decide_not, decide_eq_decide]; omega
    have e2 : decide (x > 9) = !decide (x ≤ 9) := by rw [← decide_not, decide_eq_decide]; omega
    rw [e1, e2]
    cases decide (-9 ≤ x) <;> cases decide (x ≤ 9) <;> cases x == 0 <;> rfl
def qRow (n : Nat) (row : List Int) : Bool := ((row.length : Int) == (n : Int)) && row.all (fun x => decide (0 ≤ x) && decide (x ≤ 3))
theorem count_all {τ α : Type} (q : α → Bool) (xs : List α) (t : τ) {b : Nat → Unit → Option (Lo Unit τ)}
    (hb : ∀ k x, xs[k]? = some x → b k () = some (if q x then .cont () else .out t)) : countL b xs.length 0 () = some (if xs.all q then .nx () else .out t) := by
  rw [count_range b xs.length 0 0]
  have h1 : ∀ (ys : List α) (k j : Nat), xs.drop k = ys → rangeL (fun _ k s => b k s) (List.range' k ys.length) j () = rangeL (fun k _ s => b k s) ys k () := by
    intro ys
    induction ys with
    | nil => intro k j _; rfl
    | cons y ys ih =>
      intro k j hd
      show rangeL _ (List.range' k (ys.length + 1)) j () = _
      rw [List.range'_succ]
      show (b k ()).bind _ = (b k ()).bind _
      congr 1
      funext o
      cases o with
      | cont s => exact ih (k + 1) (j + 1) (drop_next hd)
      | brk s => rfl
      | out t => rfl
  rw [h1 xs 0 0 rfl, range_all q t xs hb]
theorem s_table (r : Rule) (hel : ∀ x ∈ r.rows, x.length ≤ 1048576) : s_l6Table r = some (r.rows.all (qRow r.vars.length) && decide ((r.rows.length : Int) ≤ 8)) := by
  unfold s_l6Table
  rw [range_all (qRow r.vars.length) false r.rows]
  · cases r.rows.all (qRow r.vars.length) <;> rfl
  · intro i row hix
    have hl := hel row (List.mem_of_getElem? hix)
    show (if _ then _ else _) = _
    rw [cntF_nat (by omega), Option.bind_some, count_all (fun x => decide (0 ≤ x) && decide (x ≤ 3)) row (.out false)]
    · unfold qRow bne
      cases (row.length : Int) == (r.vars.length : Int) <;> cases row.all (fun x => decide (0 ≤ x) && decide (x ≤ 3)) <;> rfl
    · intro k x hx
      show (idx row (k : Int)).bind _ = _
      rw [idx_self hx, Option.bind_some]
      have e1 : decide (x < 0) = !decide (0 ≤ x) := by rw [← decide_not, decide_eq_decide]; omega
      have e2 : decide (x > 3) = !decide (x ≤ 3) := by rw [← decide_not, decide_eq_decide]; omega
      rw [e1, e2]
      cases decide (0 ≤ x) <;> cases decide (x ≤ 3) <;> rfl
def okRule (n : Nat) (r : Rule) : Bool :=
  if ((!(okVars n r.vars && decide ((r.vars.length : Int) ≥ 1))) || ((r.kind != 1) && (((r.coefs.length : Int) != 0) || (r.bound != 0)))) || ((r.kind != 3) && ((r.rows.length : Int) != 0)) then false
  else if r.kind == 1 then r.coefs.all qCoef && ((((r.coefs.length : Int) == (r.vars.length : Int)) && decide (r.bound ≥ -1000)) && decide (r.bound ≤ 1000))
  else if r.kind == 2 then true
  else if r.kind == 3 then r.rows.all (qRow r.vars.length) && decide ((r.rows.length : Int) ≤ 8)
  else if r.kind == 4 then ((r.vars.length : Int) == 2) else false
theorem s_rule (m : Model) (r : Rule) (h : smallR r) : s_l6Rule m r = some (okRule m.sizes.length r) := by
  unfold s_l6Rule okRule
  rw [s_vars m r.vars h.1, Option.bind_some, s_linear r, s_table r h.2.2.2]
  simp only [Option.bind_some, apply_ite some]
theorem i_coefs (xs : List Int) : slices_ContainsFunc_int xs i_ruleValid_1 = some (!xs.all qCoef) := by
  rw [← any_not_all]
  refine containsFuncInt xs _ (fun x => !qCoef x) fun x _ => ?_
  unfold i_ruleValid_1 qCoef
  rw [within_eq]
  cases hx : x == 0 <;> cases h1 : decide (-9 ≤ x) <;> cases h2 : decide (x ≤ 9) <;> simp_all
theorem i_rows (r : Rule) : slices_ContainsFunc_Sint r.rows (i_ruleValid_2 r) = some (!r.rows.all (qRow r.vars.length)) := by
  rw [← any_not_all]
  refine containsFuncSint r.rows _ (fun x => !qRow r.vars.length x) fun row _ => ?_
  unfold i_ruleValid_2 qRow
  have e : slices_ContainsFunc_int row i_ruleValid_2_1 = some (!row.all (fun x => decide (0 ≤ x) && decide (x ≤ 3))) := by
    rw [← any_not_all]
    exact containsFuncInt row _ _ fun x _ => rfl
  rw [e]
  unfold bne
  cases (row.length : Int) == (r.vars.length : Int) <;> cases row.all (fun x => decide (0 ≤ x) && decide (x ≤ 3)) <;> rfl
theorem i_rule (r : Rule) (n : Nat) (hn : n ≤ ML) : i_ruleValid r (n : Int) = some (okRule n r) := by
  unfold i_ruleValid okRule
  rw [i_vars r n hn]
  cases hv : okVars n r.vars with
  | false => rfl
  | true =>
    show (if _ then _ else _) = _
    have e0 : ((r.vars.length : Int) == 0) = !decide ((r.vars.length : Int) ≥ 1) := by
      rw [Bool.eq_iff_iff, beq_iff_eq, Bool.not_eq_true', decide_eq_false_iff_not]; omega
    have e1 : decide ((r.coefs.length : Int) > 0) = ((r.coefs.length : Int) != 0) := by
      rw [Bool.eq_iff_iff, decide_eq_true_eq, bne_iff_ne]; omega
    have e2 : decide ((r.rows.length : Int) > 0) = ((r.rows.length : Int) != 0) := by
      rw [Bool.eq_iff_iff, decide_eq_true_eq, bne_iff_ne]; omega
    rw [e0, e1, e2, Bool.true_and]
    generalize (((!decide ((r.vars.length : Int) ≥ 1)) || ((r.kind != 1) && (((r.coefs.length : Int) != 0) || (r.bound != 0)))) || ((r.kind != 3) && ((r.rows.length : Int) != 0))) = c
    cases c with
    | true => rfl
    | false =>
      rw [if_neg Bool.false_ne_true, if_neg Bool.false_ne_true, i_coefs, i_rows, within_eq]
      cases hk1 : r.kind == 1 with
      | true =>
        rw [if_pos rfl, if_pos rfl]
        have e3 : decide (-1000 ≤ r.bound) = decide (r.bound ≥ -1000) := rfl
        rw [e3]
        cases (r.coefs.length : Int) == (r.vars.length : Int) <;> cases decide (r.bound ≥ -1000) <;> cases decide (r.bound ≤ 1000) <;> cases r.coefs.all qCoef <;> rfl
      | false =>
        rw [if_neg Bool.false_ne_true, if_neg Bool.false_ne_true]
        cases hk2 : r.kind == 2 with
        | true =>
          have hk : r.kind = 2 := by simpa using hk2
          rw [hk]; rfl
        | false =>
          rw [if_neg Bool.false_ne_true]
          cases hk3 : r.kind == 3 with
          | true =>
            rw [if_pos rfl, if_pos rfl]
            cases decide ((r.rows.length : Int) ≤ 8) <;> cases r.rows.all (qRow r.vars.length) <;> rfl
          | false =>
            rw [if_neg Bool.false_ne_true, if_neg Bool.false_ne_true]
            cases hk4 : r.kind == 4 with
            | true => rfl
            | false => rfl
def qSize (x : Int) : Bool := decide (0 ≤ x) && decide (x ≤ 3)
def gsum (xs : List Int) : Int := xs.foldl (fun n x => n + x + 1) 0
theorem gsum_next (xs : List Int) (i : Nat) (h : i < xs.length) : gsum (xs.take (i + 1)) = gsum (xs.take i) + xs[i] + 1 := by
  unfold gsum
  rw [List.take_add_one, List.getElem?_eq_getElem h, List.foldl_append]
  rfl
theorem all_next (q : Int → Bool) (xs : List Int) (i : Nat) (h : i < xs.length) : (xs.take (i + 1)).all q = ((xs.take i).all q && q xs[i]) := by
  rw [List.take_add_one, List.getElem?_eq_getElem h, List.all_append]
  simp
theorem all_false (q : Int → Bool) (xs : List Int) (i : Nat) (h : i < xs.length) (hq : q xs[i] = false) : xs.all q = false := by
  rw [List.all_eq_false]
  exact ⟨xs[i], List.getElem_mem h, by simp [hq]⟩
theorem qSize_iff {x : Int} : qSize x = true ↔ 0 ≤ x ∧ x ≤ 3 := by unfold qSize; simp
theorem gsum_bound (xs : List Int) (h : xs.all qSize = true) : 0 ≤ gsum xs ∧ gsum xs ≤ 4 * xs.length := by
  have : ∀ i, i ≤ xs.length → 0 ≤ gsum (xs.take i) ∧ gsum (xs.take i) ≤ 4 * i := by
    intro i
    induction i with
    | zero => intro _; simp [gsum]
    | succ i ih =>
      intro hi
      have hb := qSize_iff.1 (List.all_eq_true.1 h xs[i] (List.getElem_mem (by omega)))
      have := ih (by omega)
      rw [gsum_next xs i (by omega)]
      omega
  have h2 := this xs.length (Nat.le_refl _)
  rwa [List.take_length] at h2
def okModel (m : Model) : Bool :=
  if (((decide ((m.sizes.length : Int) < 1)) || (decide ((m.sizes.length : Int) > 5))) || (decide (gsum m.sizes > 12))) || (decide ((m.rules.length : Int) > 8)) then false
  else m.sizes.all qSize && m.rules.all (okRule m.sizes.length)
theorem s_sizes (m : Model) (fu : Nat) (hf : FU ≤ fu) : ∃ j, whileL (s_ModelValid_b1 m) fu (0, 0) = some j ∧
    (match j with | .nx s => m.sizes.length ≤ 5 → s.1 = gsum m.sizes ∧ m.sizes.all qSize = true | .out t => t = false ∧ m.sizes.all qSize = false) := by
  refine while_inv (b := s_ModelValid_b1 m) (fun n s => n ≤ 5 ∧ ∃ i : Nat, n = 5 - i ∧ i ≤ m.sizes.length ∧ i ≤ 5 ∧ s.2 = (i : Int) ∧ s.1 = gsum (m.sizes.take i) ∧ (m.sizes.take i).all qSize = true ∧ 0 ≤ s.1 ∧ s.1 ≤ 4 * i)
    (fun j => match j with | .nx s => m.sizes.length ≤ 5 → s.1 = gsum m.sizes ∧ m.sizes.all qSize = true | .out t => t = false ∧ m.sizes.all qSize = false) ?_ fu 5 (0, 0) ⟨by omega, 0, by omega, by omega, by omega, rfl, rfl, rfl, by simp, by simp⟩ (by unfold FU at hf; omega)
  rintro n ⟨k, w⟩ ⟨hn5, i, rfl, hi, hi5, hw, hk, ha, hk0, hk1⟩
  simp only at hw hk hk0 hk1
  subst hw
  by_cases hlt : i < m.sizes.length ∧ i < 5
  · have hbody : s_ModelValid_b1 m (k, (i : Int)) = (if ((decide (m.sizes[i] < 0)) || (decide (m.sizes[i] > 3))) then (some (.out false)) else (some (.cont (i64 ((i64 (k + m.sizes[i])) + 1), i64 ((i : Int) + 1))))) := by
      show (if _ then _ else _) = _
      rw [if_pos (by simp; omega), idx_lt hlt.1]
      rfl
    cases hq : qSize m.sizes[i] with
    | true =>
      have hb := qSize_iff.1 hq
      refine ⟨.cont (k + m.sizes[i] + 1, ((i + 1 : Nat) : Int)), ?_, _, ?_, by omega, i + 1, rfl, hlt.1, hlt.2, rfl, ?_, ?_, ?_, ?_⟩
      · rw [hbody, if_neg (by simp; omega), i64_id (n := (i : Int) + 1) (by omega) (by omega), i64_id (n := k + m.sizes[i]) (by omega) (by omega), i64_id (by omega) (by omega)]
        rfl
      · omega
      · rw [gsum_next _ _ hlt.1, hk]
      · rw [all_next _ _ _ hlt.1, ha, hq]; rfl
      · show 0 ≤ k + m.sizes[i] + 1; omega
      · show k + m.sizes[i] + 1 ≤ 4 * ((i + 1 : Nat) : Int); omega
    | false =>
      refine ⟨.out false, ?_, rfl, all_false _ _ _ hlt.1 hq⟩
      have hnb : ¬ (0 ≤ m.sizes[i] ∧ m.sizes[i] ≤ 3) := fun h => by rw [qSize_iff.2 h] at hq; cases hq
      rw [hbody, if_pos (by simp; omega)]
  · refine ⟨.brk (k, (i : Int)), ?_, fun h5 => ?_⟩
    · show (if _ then _ else _) = _
      rw [if_neg (by simp; omega)]
    · obtain rfl : i = m.sizes.length := by omega
      rw [List.take_length] at hk ha
      exact ⟨hk, ha⟩
theorem s_model (m : Model) (h : smallM m) (fu : Nat) (hf : FU ≤ fu) : s_ModelValid fu m = some (okModel m) := by
  unfold s_ModelValid okModel
  obtain ⟨j, hj, hQ⟩ := s_sizes m fu hf
  rw [hj, Option.bind_some]
  cases j with
  | out t =>
    simp only at hQ
    obtain ⟨rfl, hf⟩ := hQ
    rw [hf, Bool.false_and, ite_self]
  | nx s =>
    obtain ⟨n, i⟩ := s
    by_cases h5 : m.sizes.length ≤ 5
    · obtain ⟨hn, ha⟩ := hQ h5
      simp only at hn
      subst hn
      rw [ha, Bool.true_and]
      have h2 : rangeL (s_ModelValid_b2 m) m.rules 0 () = some (if m.rules.all (okRule m.sizes.length) then .nx () else .out false) := by
        refine range_all _ _ _ fun i r hr => ?_
        show (s_l6Rule m r).bind _ = _
        rw [s_rule m r (h.2.2 r (List.mem_of_getElem? hr)), Option.bind_some]
        cases okRule m.sizes.length r <;> rfl
      simp only [h2, Option.bind_some]
      rw [apply_ite some]
      congr 1
      cases m.rules.all (okRule m.sizes.length) <;> rfl
    · have e : ((((decide ((m.sizes.length : Int) < 1)) || (decide ((m.sizes.length : Int) > 5))) || (decide (gsum m.sizes > 12))) || (decide ((m.rules.length : Int) > 8))) = true := by simp; omega
      have e' : ((((decide ((m.sizes.length : Int) < 1)) || (decide ((m.sizes.length : Int) > 5))) || (decide (n > 12))) || (decide ((m.rules.length : Int) > 8))) = true := by simp; omega
      simp only [e, e', if_true]
theorem i_sizes (m : Model) (h5 : m.sizes.length ≤ 5) : ∃ j, rangeL i_ModelValid_b1 m.sizes 0 0 = some j ∧
    (match j with | .nx s => s = gsum m.sizes ∧ m.sizes.all qSize = true | .out t => t = false ∧ m.sizes.all qSize = false) := by
  refine range_inv m.sizes (fun i c => c = gsum (m.sizes.take i) ∧ (m.sizes.take i).all qSize = true ∧ 0 ≤ c ∧ c ≤ 4 * i)
    (fun j => match j with | .nx s => s = gsum m.sizes ∧ m.sizes.all qSize = true | .out t => t = false ∧ m.sizes.all qSize = false) ?_ ?_ 0 ⟨rfl, rfl, by simp, by simp⟩
  · rintro c ⟨hc, ha, _, _⟩
    rw [List.take_length] at hc ha
    exact ⟨hc, ha⟩
  · rintro i x c hx ⟨hc, ha, h0, h1⟩
    have hi := (List.getElem?_eq_some_iff.1 hx).1
    obtain rfl : m.sizes[i] = x := (List.getElem?_eq_some_iff.1 hx).2
    cases hq : qSize m.sizes[i] with
    | true =>
      have hb := qSize_iff.1 hq
      refine ⟨.cont (c + m.sizes[i] + 1), ?_, by rw [gsum_next _ _ hi, hc], by rw [all_next _ _ _ hi, ha, hq]; rfl, by omega, by omega⟩
      simp only [i_ModelValid_b1, within_eq, Option.bind_some]
      have : (decide (0 ≤ m.sizes[i]) && decide (m.sizes[i] ≤ 3)) = true := hq
      rw [this, if_neg (by simp), i64_id (n := m.sizes[i] + 1) (by omega) (by omega), i64_id (by omega) (by omega)]
      rw [Int.add_assoc]
    | false =>
      refine ⟨.out false, ?_, rfl, all_false _ _ _ hi hq⟩
      simp only [i_ModelValid_b1, within_eq, Option.bind_some]
      have : (decide (0 ≤ m.sizes[i]) && decide (m.sizes[i] ≤ 3)) = false := hq
      rw [this]; rfl
theorem i_model (m : Model) (h : smallM m) : i_ModelValid m = some (okModel m) := by
  unfold i_ModelValid okModel
  rw [within_eq, Option.bind_some]
  by_cases h1 : 1 ≤ m.sizes.length ∧ m.sizes.length ≤ 5 ∧ m.rules.length ≤ 8
  · have e1 : ((!(decide (1 ≤ (m.sizes.length : Int)) && decide ((m.sizes.length : Int) ≤ 5))) || decide ((m.rules.length : Int) > 8)) = false := by
      rw [show decide (1 ≤ (m.sizes.length : Int)) = true from decide_eq_true (by omega), show decide ((m.sizes.length : Int) ≤ 5) = true from decide_eq_true (by omega), show decide ((m.rules.length : Int) > 8) = false from decide_eq_false (by omega)]
      rfl
    rw [e1, if_neg Bool.false_ne_true]
    have e2 : ((((decide ((m.sizes.length : Int) < 1)) || (decide ((m.sizes.length : Int) > 5))) || (decide (gsum m.sizes > 12))) || (decide ((m.rules.length : Int) > 8))) = decide (gsum m.sizes > 12) := by
      rw [show decide ((m.sizes.length : Int) < 1) = false from decide_eq_false (by omega), show decide ((m.sizes.length : Int) > 5) = false from decide_eq_false (by omega), show decide ((m.rules.length : Int) > 8) = false from decide_eq_false (by omega)]
      simp
    rw [e2]
    obtain ⟨j, hj, hQ⟩ := i_sizes m h1.2.1
    rw [hj, Option.bind_some]
    cases j with
    | out t =>
      simp only at hQ
      rw [hQ.1, hQ.2, Bool.false_and, ite_self]
    | nx c =>
      simp only at hQ
      obtain ⟨rfl, ha⟩ := hQ
      rw [ha, Bool.true_and]
      have e3 : slices_ContainsFunc_implRule m.rules (i_ModelValid_1 m) = some (!m.rules.all (okRule m.sizes.length)) := by
        rw [← any_not_all]
        refine containsFuncRule m.rules _ _ fun r hr => ?_
        unfold i_ModelValid_1
        rw [i_rule r _ (by have := h1.2.1; unfold ML; omega)]
        rfl
      have e4 : decide (gsum m.sizes ≤ 12) = !decide (gsum m.sizes > 12) := by rw [← decide_not, decide_eq_decide]; omega
      simp only [e3, e4]
      cases decide (gsum m.sizes > 12) <;> cases m.rules.all (okRule m.sizes.length) <;> rfl
  · have e1 : ((!(decide (1 ≤ (m.sizes.length : Int)) && decide ((m.sizes.length : Int) ≤ 5))) || decide ((m.rules.length : Int) > 8)) = true := by
      simp; omega
    have e2 : ((((decide ((m.sizes.length : Int) < 1)) || (decide ((m.sizes.length : Int) > 5))) || (decide (gsum m.sizes > 12))) || (decide ((m.rules.length : Int) > 8))) = true := by
      simp; omega
    rw [e1, e2, if_pos rfl, if_pos rfl]
theorem okModel_parts {m : Model} (h : okModel m = true) : 1 ≤ m.sizes.length ∧ m.sizes.length ≤ 5 ∧ m.sizes.all qSize = true ∧ m.rules.length ≤ 8 ∧ gsum m.sizes ≤ 12 ∧ m.rules.all (okRule m.sizes.length) = true := by
  unfold okModel at h
  split at h
  · cases h
  · rename_i hc
    simp at hc
    rw [Bool.and_eq_true] at h
    exact ⟨by omega, by omega, h.1, by omega, by omega, h.2⟩
end Go.L
namespace Go.L
open Go Go.E
set_option linter.unusedVariables false
theorem take_all (xs : List Int) (i : Nat) (h : xs.all qSize = true) : (xs.take i).all qSize = true := by
  rw [List.all_eq_true] at h ⊢
  exact fun x hx => h x (List.mem_of_mem_take hx)
def boolVar (m : Model) (c : Nat) (v : Int) : Int := 1 + v + gsum (m.sizes.take c)
theorem s_var (m : Model) (c : Nat) (v : Int) (hc : c ≤ m.sizes.length) (h5 : m.sizes.length ≤ 5) (ha : m.sizes.all qSize = true) (hv : 0 ≤ v ∧ v ≤ 3) : s_l7Var m (c : Int) v = some (boolVar m c v) := by
  unfold s_l7Var
  rw [i64_id (n := 1 + v) (by omega) (by omega), cntF_nat (by omega), Option.bind_some]
  have h := count_to (b := s_l7Var_b1 m) (fun i => 1 + v + gsum (m.sizes.take i)) c 0 (by
    intro i _ hi
    have hil : i < m.sizes.length := by omega
    have hb := qSize_iff.1 (List.all_eq_true.1 ha m.sizes[i] (List.getElem_mem hil))
    have hg := gsum_bound _ (take_all m.sizes i ha)
    have hl : (m.sizes.take i).length ≤ 5 := by simp; omega
    show (idx m.sizes (i : Int)).bind _ = _
    rw [idx_lt hil, Option.bind_some, i64_id (n := 1 + v + gsum (m.sizes.take i) + m.sizes[i]) (by omega) (by omega), i64_id (by omega) (by omega), gsum_next _ _ hil]
    congr 2; omega)
  rw [Nat.zero_add] at h
  have e : 1 + v + gsum (m.sizes.take 0) = 1 + v := by simp [gsum]
  rw [e] at h
  rw [h]; rfl
theorem i_var (m : Model) (c : Nat) (v : Int) (hc : c ≤ m.sizes.length) (h5 : m.sizes.length ≤ 5) (ha : m.sizes.all qSize = true) (hv : 0 ≤ v ∧ v ≤ 3) : i_Model_boolVar m (c : Int) v = some (boolVar m c v) := by
  unfold i_Model_boolVar
  rw [sl_pre hc, Option.bind_some, i64_id (n := 1 + v) (by omega) (by omega)]
  have hal := take_all m.sizes c ha
  have hl : (m.sizes.take c).length ≤ 5 := by simp; omega
  unfold boolVar
  generalize m.sizes.take c = xs at *
  have h := range_to (b := i_Model_boolVar_b1) (fun i => 1 + v + gsum (xs.take i)) xs (by
    intro i x hx
    have hi := (List.getElem?_eq_some_iff.1 hx).1
    obtain rfl : xs[i] = x := (List.getElem?_eq_some_iff.1 hx).2
    have hb := qSize_iff.1 (List.all_eq_true.1 hal xs[i] (List.getElem_mem hi))
    have hg := gsum_bound _ (take_all xs i hal)
    have hl2 : (xs.take i).length ≤ 5 := by simp; omega
    simp only [i_Model_boolVar_b1]
    rw [i64_id (n := xs[i] + 1) (by omega) (by omega), i64_id (by omega) (by omega), gsum_next _ _ hi]
    congr 2; omega)
  have e : 1 + v + gsum (xs.take 0) = 1 + v := by simp [gsum]
  rw [e] at h
  rw [h]
  simp
theorem sizes_get {m : Model} (ha : m.sizes.all qSize = true) {i : Nat} (hi : i < m.sizes.length) : 0 ≤ m.sizes[i] ∧ m.sizes[i] ≤ 3 := qSize_iff.1 (List.all_eq_true.1 ha m.sizes[i] (List.getElem_mem hi))
theorem boolVar_range {m : Model} (h : okModel m = true) {c : Nat} (hc : c < m.sizes.length) {v : Int} (hv : 0 ≤ v ∧ v ≤ m.sizes[c]) : 1 ≤ boolVar m c v ∧ boolVar m c v ≤ gsum m.sizes ∧ boolVar m c v ≤ 12 := by
  obtain ⟨h1, h5, ha, _, hg, _⟩ := okModel_parts h
  have b1 := gsum_bound _ (take_all m.sizes c ha)
  have mono2 : ∀ k, c + 1 + k ≤ m.sizes.length → gsum (m.sizes.take (c + 1)) ≤ gsum (m.sizes.take (c + 1 + k)) := by
    intro k
    induction k with
    | zero => intro _; exact Int.le_refl _
    | succ k ih =>
      intro hk
      have := ih (by omega)
      have hb := sizes_get ha (i := c + 1 + k) (by omega)
      have hg2 := gsum_next m.sizes (c + 1 + k) (by omega)
      rw [← Nat.add_assoc]
      omega
  have h2 := mono2 (m.sizes.length - (c + 1)) (by omega)
  rw [show c + 1 + (m.sizes.length - (c + 1)) = m.sizes.length from by omega, List.take_length, gsum_next _ _ hc] at h2
  unfold boolVar
  omega
theorem eq_list {α : Type} [BEq α] [LawfulBEq α] {xs ys : List α} {b : Nat → α → Unit → Option (Lo Unit Bool)} {all : Option Bool} {k : Jn Unit Bool → Option Bool}
    (e : all = if ((xs.length : Int) != (ys.length : Int)) then (some false) else ((rangeL b xs 0 ()).bind k)) (hk : k (.nx ()) = some true) (hk2 : k (.out false) = some false)
    (hb : ∀ i x y, xs[i]? = some x → ys[i]? = some y → b i x () = some (if x == y then .cont () else .out false)) : all = some (xs == ys) := by
  rw [e]
  by_cases hl : xs.length = ys.length
  · rw [if_neg (by simp [hl])]
    have h := range_allI (fun i x => ys[i]? == some x) false (b := b) xs (by
      intro i x hx
      have hi := (List.getElem?_eq_some_iff.1 hx).1
      have hy : ys[i]? = some (ys[i]'(by omega)) := List.getElem?_eq_getElem (by omega)
      rw [hb i x _ hx hy, hy]
      congr 1
      by_cases h : x = ys[i]'(by omega)
      · simp [h]
      · have h2 : ¬ ys[i]'(by omega) = x := fun e => h e.symm
        simp [h, h2])
    rw [h, Option.bind_some]
    have : allFrom (fun i x => ys[i]? == some x) xs 0 = (xs == ys) := by
      rw [Bool.eq_iff_iff, allFrom_iff, beq_iff_eq]
      constructor
      · intro h
        refine List.ext_getElem? fun i => ?_
        rcases Nat.lt_or_ge i xs.length with hi | hi
        · have := h i xs[i] (List.getElem?_eq_getElem hi)
          rw [Nat.zero_add, beq_iff_eq] at this
          rw [this, List.getElem?_eq_getElem hi]
        · rw [List.getElem?_eq_none hi, List.getElem?_eq_none (by omega)]
      · intro h i x hx
        rw [Nat.zero_add, ← h, hx]; simp
    rw [this]
    cases xs == ys <;> simp [hk, hk2]
  · rw [if_pos (by simp; omega)]
    congr 1
    symm
    rw [beq_eq_false_iff_ne]
    intro e; exact hl (congrArg List.length e)
theorem s_ints (a b : List Int) : s_l6Ints a b = some (a == b) :=
  eq_list (b := s_l6Ints_b1 b) rfl rfl rfl (fun i x y hx hy => by show (idx b (i : Int)).bind _ = _; rw [idx_self hy, Option.bind_some, bne]; cases x == y <;> rfl)
theorem i_ints (a b : List Int) : slices_Equal_int a b = some (a == b) :=
  eq_list (b := slices_Equal_int_b1 b) rfl rfl rfl (fun i x y hx hy => by show (idx b (i : Int)).bind _ = _; rw [idx_self hy, Option.bind_some, bne]; cases x == y <;> rfl)
def cellsIn (m : Model) (cells : List Int) : Bool := ((cells.length : Int) == (m.sizes.length : Int)) && allFrom (fun i x => decide (0 ≤ x) && decide (x ≤ m.sizes.getD i 0)) cells 0
theorem getD_lt {α : Type} {xs : List α} {i : Nat} {d : α} (h : i < xs.length) : xs.getD i d = xs[i] := by rw [List.getD_eq_getElem?_getD, List.getElem?_eq_getElem h]; rfl
theorem cellsIn_iff {m : Model} {cells : List Int} : cellsIn m cells = true ↔ cells.length = m.sizes.length ∧ ∀ i x, cells[i]? = some x → 0 ≤ x ∧ x ≤ m.sizes.getD i 0 := by
  unfold cellsIn
  rw [Bool.and_eq_true, allFrom_iff, beq_iff_eq]
  constructor
  · rintro ⟨h1, h2⟩
    exact ⟨by omega, fun i x hx => by have := h2 i x hx; simpa using this⟩
  · rintro ⟨h1, h2⟩
    exact ⟨by omega, fun i x hx => by have := h2 i x hx; simpa using this⟩
def dotTo (cs vs : List Int) (i : Nat) : Int := ((cs.zip vs).take i).foldl (fun n p => n + p.1 * p.2) 0
def dot (cs vs : List Int) : Int := (cs.zip vs).foldl (fun n p => n + p.1 * p.2) 0
theorem dot_next (cs vs : List Int) (i : Nat) (h1 : i < cs.length) (h2 : i < vs.length) : dotTo cs vs (i + 1) = dotTo cs vs i + cs[i] * vs[i] := by
  unfold dotTo
  rw [List.take_add_one, List.getElem?_eq_getElem (by simp; omega), List.foldl_append]
  simp
def distinct (vs : List Int) : Bool := allFrom (fun i x => !(vs.take i).contains x) vs 0
def ruleHolds (r : Rule) (vs : List Int) : Bool :=
  if r.kind == 1 then decide (dot r.coefs vs ≥ r.bound) else if r.kind == 2 then distinct vs else if r.kind == 4 then decide (vs.getD 0 0 < vs.getD 1 0) else r.rows.any (fun row => row == vs)
def valsOf (r : Rule) (cells : List Int) : List Int := r.vars.map fun v => cells.getD v.toNat 0
theorem prod_bound {x y : Int} (h : -9 ≤ x ∧ x ≤ 9) (k : 0 ≤ y ∧ y ≤ 3) : -27 ≤ x * y ∧ x * y ≤ 27 := by
  obtain rfl | rfl | rfl | rfl : y = 0 ∨ y = 1 ∨ y = 2 ∨ y = 3 := by omega
  all_goals omega
theorem dot_bound (cs vs : List Int) (hc : cs.all qCoef = true) (hv : ∀ x ∈ vs, 0 ≤ x ∧ x ≤ 3) (hl : cs.length = vs.length) : ∀ i, i ≤ vs.length → -27 * i ≤ dotTo cs vs i ∧ dotTo cs vs i ≤ 27 * i := by
  intro i
  induction i with
  | zero => intro _; simp [dotTo]
  | succ i ih =>
    intro hi
    have := ih (by omega)
    have hq := List.all_eq_true.1 hc cs[i] (List.getElem_mem (by omega))
    unfold qCoef at hq
    simp at hq
    have hb := prod_bound (x := cs[i]) (y := vs[i]) ⟨by omega, by omega⟩ (hv _ (List.getElem_mem _))
    rw [dot_next _ _ _ (by omega) (by omega)]
    omega
theorem dot_full (cs vs : List Int) (h : cs.length = vs.length) : dotTo cs vs vs.length = dot cs vs := by
  unfold dotTo dot
  rw [List.take_of_length_le (by simp; omega)]
theorem dot_loop (cs vs : List Int) (hc : cs.all qCoef = true) (hv : ∀ x ∈ vs, 0 ≤ x ∧ x ≤ 3) (hl : cs.length = vs.length) (h5 : vs.length ≤ 1048576) {τ : Type} {b : Nat → Int → Int → Option (Lo Int τ)}
    (hb : ∀ i x n, b i x n = (idx cs (i : Int)).bind fun c => some (.cont (i64 (n + (i64 (c * x)))))) : rangeL b vs 0 0 = some (.nx (dot cs vs)) := by
  have h := range_to (b := b) (fun i => dotTo cs vs i) vs (by
    intro i x hx
    have hi := (List.getElem?_eq_some_iff.1 hx).1
    obtain rfl : vs[i] = x := (List.getElem?_eq_some_iff.1 hx).2
    have hq := List.all_eq_true.1 hc cs[i] (List.getElem_mem (by omega))
    unfold qCoef at hq
    simp at hq
    have hp := prod_bound (x := cs[i]) (y := vs[i]) ⟨by omega, by omega⟩ (hv _ (List.getElem_mem _))
    have hd := dot_bound cs vs hc hv hl i (by omega)
    rw [hb, idx_lt (by omega), Option.bind_some, i64_id (n := cs[i] * vs[i]) (by omega) (by omega), i64_id (by omega) (by omega), dot_next _ _ _ (by omega) (by omega)])
  rw [dot_full _ _ hl] at h
  exact h
theorem okRule_parts {n : Nat} {r : Rule} (h : okRule n r = true) : okVars n r.vars = true ∧ 1 ≤ r.vars.length ∧ ((r.kind = 1 ∧ r.coefs.all qCoef = true ∧ r.coefs.length = r.vars.length ∧ -1000 ≤ r.bound ∧ r.bound ≤ 1000) ∨ r.kind = 2 ∨ (r.kind = 3 ∧ r.rows.all (qRow r.vars.length) = true ∧ r.rows.length ≤ 8) ∨ (r.kind = 4 ∧ r.vars.length = 2)) := by
  unfold okRule at h
  split at h
  · cases h
  · rename_i hc
    simp at hc
    refine ⟨hc.1.1.1, by omega, ?_⟩
    split at h
    · rename_i hk
      simp at hk h
      exact .inl ⟨hk, by simpa using h.1, by omega, by omega, by omega⟩
    · split at h
      · rename_i _ hk; simp at hk; exact .inr (.inl hk)
      · split at h
        · rename_i _ _ hk; simp at hk h; exact .inr (.inr (.inl ⟨hk, by simpa using h.1, by omega⟩))
        · split at h
          · rename_i _ _ _ hk; simp at hk h; exact .inr (.inr (.inr ⟨hk, by omega⟩))
          · cases h
theorem okVars_iff {n : Nat} {xs : List Int} : okVars n xs = true ↔ (∀ x ∈ xs, 0 ≤ x ∧ x < (n : Int)) ∧ distinct xs = true := by
  unfold okVars distinct
  rw [allFrom_iff, allFrom_iff]
  constructor
  · intro h
    refine ⟨fun x hx => ?_, fun i x hx => ?_⟩
    · obtain ⟨i, hi, rfl⟩ := List.mem_iff_getElem.1 hx
      have := h i xs[i] (List.getElem?_eq_getElem hi)
      unfold gqVars at this
      simp at this
      omega
    · have := h i x hx
      unfold gqVars at this
      rw [Bool.and_eq_true] at this
      exact this.2
  · rintro ⟨h1, h2⟩ i x hx
    have := h1 x (List.mem_of_getElem? hx)
    have h3 := h2 i x hx
    unfold gqVars
    rw [Bool.and_eq_true]
    exact ⟨by simp; omega, h3⟩
theorem valsOf_bound {m : Model} {cells : List Int} (ha : m.sizes.all qSize = true) (hc : cellsIn m cells = true) (r : Rule) (hv : okVars m.sizes.length r.vars = true) : ∀ x ∈ valsOf r cells, 0 ≤ x ∧ x ≤ 3 := by
  intro x hx
  obtain ⟨v, hvm, rfl⟩ := List.mem_map.1 hx
  obtain ⟨h1, h2⟩ := cellsIn_iff.1 hc
  have hb := (okVars_iff.1 hv).1 v hvm
  have hl : v.toNat < cells.length := by omega
  rw [getD_lt hl]
  have h3 := h2 v.toNat cells[v.toNat] (List.getElem?_eq_getElem hl)
  rw [getD_lt (by omega)] at h3
  have := sizes_get ha (i := v.toNat) (by omega)
  omega
theorem vals_loop (n : Nat) (r : Rule) (cells : List Int) (hn : cells.length = n) (hv : okVars n r.vars = true) (hl : r.vars.length ≤ 1048576) {τ : Type} {b : Nat → Int → List Int → Option (Lo (List Int) τ)}
    (hb : ∀ i x out, b i x out = (idx cells x).bind fun y => (app out ([y])).bind fun z => some (.cont z)) : rangeL b r.vars 0 [] = some (.nx (valsOf r cells)) := by
  refine range_map (fun v => cells.getD v.toNat 0) r.vars ?_
  intro i x out hx ho
  have hi := (List.getElem?_eq_some_iff.1 hx).1
  have hb1 := (okVars_iff.1 hv).1 x (List.mem_of_getElem? hx)
  rw [hb, idx_get hb1.1 (by omega), Option.bind_some, app_le (by simp; omega), Option.bind_some, getD_lt (by omega)]
theorem less_idx {vs : List Int} (h : vs.length = 2) : ((idx vs 0).bind fun x => (idx vs 1).bind fun y => some (decide (x < y))) = some (decide (vs.getD 0 0 < vs.getD 1 0)) := by
  match vs, h with
  | [x, y], _ => rfl
theorem s_holds {m : Model} {cells : List Int} (hs : smallM m) (h5 : m.sizes.length ≤ 5) (ha : m.sizes.all qSize = true) (hc : cellsIn m cells = true) (r : Rule) (hr : r ∈ m.rules) (hok : okRule m.sizes.length r = true) :
    s_l6Holds r cells = some (ruleHolds r (valsOf r cells)) := by
  obtain ⟨hv, hv1, hk⟩ := okRule_parts hok
  have hsm := hs.2.2 r hr
  have hvb := valsOf_bound ha hc r hv
  have hlen : (valsOf r cells).length = r.vars.length := by simp [valsOf]
  unfold s_l6Holds
  rw [vals_loop m.sizes.length r cells (cellsIn_iff.1 hc).1 hv hsm.1 (b := s_l6Holds_b1 cells) (fun _ _ _ => rfl), Option.bind_some]
  simp only
  unfold ruleHolds
  have h51 := hsm.1
  rcases hk with ⟨hk, hc1, hc2, _⟩ | hk | ⟨hk, _⟩ | ⟨hk, h2⟩
  · rw [hk]
    simp only [beq_self_eq_true, if_true]
    rw [dot_loop r.coefs _ hc1 hvb (by omega) (by omega) (b := s_l6Holds_b2 r) (fun _ _ _ => rfl)]
    rfl
  · rw [hk]
    rw [show ((2 : Int) == 1) = false from rfl, show ((2 : Int) == 2) = true from rfl]
    simp only [ite_false']
    rw [range_allI (fun i x => !((valsOf r cells).take i).contains x) false]
    · unfold distinct
      cases allFrom (fun i x => !((valsOf r cells).take i).contains x) (valsOf r cells) 0 <;> rfl
    · intro i x hx
      have hi := (List.getElem?_eq_some_iff.1 hx).1
      show (cntF 0 (i : Int)).bind _ = _
      rw [cntF_nat (by omega), Option.bind_some, count_notin (valsOf r cells) x (.out false) i (by omega) fun k hk => rfl]
      cases ((valsOf r cells).take i).contains x <;> rfl
  · rw [hk]
    rw [show ((3 : Int) == 1) = false from rfl, show ((3 : Int) == 2) = false from rfl, show ((3 : Int) == 4) = false from rfl]
    simp only [ite_false']
    rw [range_any (fun row => row == valsOf r cells) true]
    · cases r.rows.any (fun row => row == valsOf r cells) <;> rfl
    · intro i x hx
      show (s_l6Ints x _).bind _ = _
      rw [s_ints, Option.bind_some]
      cases x == valsOf r cells <;> rfl
  · rw [hk]
    rw [show ((4 : Int) == 1) = false from rfl, show ((4 : Int) == 2) = false from rfl, show ((4 : Int) == 4) = true from rfl]
    simp only [ite_false']
    exact less_idx (by omega)
theorem i_holdsV (n : Nat) (r : Rule) (vs : List Int) (hlen : vs.length = r.vars.length) (hl : r.vars.length ≤ 1048576) (hvb : ∀ x ∈ vs, 0 ≤ x ∧ x ≤ 3) (hok : okRule n r = true) : i_Rule_holds r vs = some (ruleHolds r vs) := by
  obtain ⟨hv, hv1, hk⟩ := okRule_parts hok
  unfold i_Rule_holds ruleHolds
  rcases hk with ⟨hk, hc1, hc2, _⟩ | hk | ⟨hk, _⟩ | ⟨hk, h2⟩
  · rw [hk]
    simp only [beq_self_eq_true, if_true]
    rw [dot_loop r.coefs _ hc1 hvb (by omega) (by omega) (b := i_Rule_holds_b1 r) (fun _ _ _ => rfl)]
    rfl
  · rw [hk]
    rw [show ((2 : Int) == 1) = false from rfl, show ((2 : Int) == 2) = true from rfl]
    simp only [ite_false', if_true]
    rw [range_allI (fun i x => !(vs.take i).contains x) false]
    · unfold distinct
      cases allFrom (fun i x => !(vs.take i).contains x) vs 0 <;> rfl
    · intro i x hx
      have hi := (List.getElem?_eq_some_iff.1 hx).1
      show (sl vs 0 (i : Int)).bind _ = _
      rw [sl_pre (by omega), Option.bind_some, containsInt, Option.bind_some]
      cases (vs.take i).contains x <;> rfl
  · rw [hk]
    rw [show ((3 : Int) == 1) = false from rfl, show ((3 : Int) == 2) = false from rfl, show ((3 : Int) == 3) = true from rfl, show ((3 : Int) == 4) = false from rfl]
    simp only [ite_false', if_true]
    rw [containsFuncSint r.rows _ (fun row => row == vs) fun row _ => by unfold i_Rule_holds_1; rw [i_ints]; rfl]
    rfl
  · rw [hk]
    rw [show ((4 : Int) == 1) = false from rfl, show ((4 : Int) == 2) = false from rfl, show ((4 : Int) == 3) = false from rfl, show ((4 : Int) == 4) = true from rfl]
    simp only [ite_false', if_true]
    exact less_idx (by omega)
theorem okRule_mem {m : Model} (h : okModel m = true) {r : Rule} (hr : r ∈ m.rules) : okRule m.sizes.length r = true := List.all_eq_true.1 (okModel_parts h).2.2.2.2.2 r hr
def solves (m : Model) (cells : List Int) : Bool := m.rules.all fun r => ruleHolds r (valsOf r cells)
end Go.L
namespace Go.L
open Go Go.E
set_option linter.unusedVariables false
def nextC : List Int → List Int → Option (List Int)
  | s :: ss, c :: cs => match nextC ss cs with
    | some cs' => some (c :: cs')
    | none => if c < s then some ((c + 1) :: List.replicate cs.length 0) else none
  | _, _ => none
def fit : List Int → List Int → Prop
  | [], [] => True
  | s :: ss, c :: cs => (0 ≤ c ∧ c ≤ s) ∧ fit ss cs
  | _, _ => False
theorem fit_iff : ∀ (ss cs : List Int), fit ss cs ↔ cs.length = ss.length ∧ ∀ i x, cs[i]? = some x → 0 ≤ x ∧ x ≤ ss.getD i 0
  | [], [] => by simp [fit]
  | [], c :: cs => by simp [fit]
  | s :: ss, [] => by simp [fit]
  | s :: ss, c :: cs => by
    rw [fit, fit_iff ss cs]
    constructor
    · rintro ⟨h0, h1, h2⟩
      refine ⟨by simp [h1], fun i x hx => ?_⟩
      cases i with
      | zero => simp at hx; subst hx; simpa using h0
      | succ i => simpa using h2 i x (by simpa using hx)
    · rintro ⟨h1, h2⟩
      refine ⟨by simpa using h2 0 c rfl, by simpa using h1, fun i x hx => ?_⟩
      simpa using h2 (i + 1) x (by simpa using hx)
theorem fit_len {ss cs : List Int} (h : fit ss cs) : cs.length = ss.length := ((fit_iff _ _).1 h).1
theorem fit_get {ss cs : List Int} (h : fit ss cs) {i : Nat} (hi : i < cs.length) : 0 ≤ cs[i] ∧ cs[i] ≤ ss[i]'(by rw [← fit_len h]; exact hi) := by
  have := ((fit_iff _ _).1 h).2 i cs[i] (List.getElem?_eq_getElem hi)
  rwa [getD_lt (by rw [← fit_len h]; exact hi)] at this
theorem nextC_drop : ∀ (i : Nat) (ss cs t : List Int), i ≤ cs.length → cs.length = ss.length → nextC (ss.drop i) (cs.drop i) = some t → nextC ss cs = some (cs.take i ++ t)
  | 0, ss, cs, t, _, _, h => by simpa using h
  | i + 1, s :: ss, c :: cs, t, hi, hl, h => by
    have := nextC_drop i ss cs t (by simpa using hi) (by simpa using hl) (by simpa using h)
    simp [nextC, this]
  | i + 1, [], c :: cs, t, hi, hl, h => by simp at hl
  | i + 1, s :: ss, [], t, hi, hl, h => by simp at hl
  | i + 1, [], [], t, hi, hl, h => by simp at hi
def zfrom (cs : List Int) (j : Nat) : List Int := cs.take j ++ List.replicate (cs.length - j) 0
theorem zfrom_set (cs : List Int) (j : Nat) (h : j < cs.length) (x : Int) : (zfrom cs (j + 1)).set j x = cs.take j ++ x :: List.replicate (cs.length - (j + 1)) 0 := by
  have e : cs.take (j + 1) = cs.take j ++ [cs[j]] := by rw [List.take_add_one, List.getElem?_eq_getElem h]; rfl
  have hl : (cs.take j).length = j := by simp; omega
  unfold zfrom
  rw [e, List.append_assoc, List.set_append_right _ _ (by omega), hl, Nat.sub_self]
  rfl
theorem zfrom_zero (cs : List Int) (j : Nat) (h : j < cs.length) : (zfrom cs (j + 1)).set j 0 = zfrom cs j := by
  rw [zfrom_set cs j h]
  unfold zfrom
  rw [show cs.length - j = (cs.length - (j + 1)) + 1 from by omega, List.replicate_succ]
theorem zfrom_get (cs : List Int) (j : Nat) (h : j < cs.length) : (zfrom cs (j + 1))[j]? = some cs[j] := by
  unfold zfrom
  rw [List.getElem?_append_left (by simp; omega), List.getElem?_take_of_lt (by omega), List.getElem?_eq_getElem h]
theorem next_up {ss cs : List Int} (hf : fit ss cs) {j : Nat} (hj : j < cs.length) (hn : nextC (ss.drop (j + 1)) (cs.drop (j + 1)) = none) (hlt : cs[j] < ss[j]'(by rw [← fit_len hf]; exact hj)) :
    nextC ss cs = some ((zfrom cs (j + 1)).set j (cs[j] + 1)) := by
  have hl := fit_len hf
  refine (nextC_drop j ss cs ((cs[j] + 1) :: List.replicate (cs.length - (j + 1)) 0) (by omega) hl ?_).trans ?_
  · rw [List.drop_eq_getElem_cons (show j < ss.length by omega), List.drop_eq_getElem_cons hj]
    simp [nextC, hn, hlt]
  · rw [zfrom_set cs j hj]
theorem next_no {ss cs : List Int} (hf : fit ss cs) {j : Nat} (hj : j < cs.length) (hn : nextC (ss.drop (j + 1)) (cs.drop (j + 1)) = none) (hlt : ¬ cs[j] < ss[j]'(by rw [← fit_len hf]; exact hj)) :
    nextC (ss.drop j) (cs.drop j) = none := by
  have hl := fit_len hf
  rw [List.drop_eq_getElem_cons (show j < ss.length by omega), List.drop_eq_getElem_cons hj]
  simp [nextC, hn, hlt]
theorem next_end {ss cs : List Int} (hf : fit ss cs) : nextC (ss.drop cs.length) (cs.drop cs.length) = none := by
  rw [List.drop_length, fit_len hf, List.drop_length]; rfl
theorem s_next (m : Model) (cells : List Int) (hf : fit m.sizes cells) (h5 : cells.length ≤ 5) (h3 : m.sizes.all qSize = true) (fu : Nat) (hfu : FU ≤ fu) :
    s_l6Next fu m cells = some (match nextC m.sizes cells with | some c => (c, true) | none => (List.replicate cells.length 0, false)) := by
  unfold s_l6Next
  have hl := fit_len hf
  have e0 : i64 ((cells.length : Int) - 1) = (cells.length : Int) - 1 := i64_id (by omega) (by omega)
  rw [app_le (by simp; omega), Option.bind_some]
  simp only [List.nil_append]
  rw [e0]
  obtain ⟨j, hj, hQ⟩ := while_inv (b := s_l6Next_b1 m) (fun n s => n = (s.2 + 1).toNat ∧ ∃ j : Nat, j ≤ cells.length ∧ s.1 = zfrom cells j ∧ s.2 = (j : Int) - 1 ∧ nextC (m.sizes.drop j) (cells.drop j) = none)
    (fun jn => (match jn with | .nx s => s.1 = List.replicate cells.length 0 ∧ nextC m.sizes cells = none | .out t => t.2 = true ∧ nextC m.sizes cells = some t.1))
    (by
      rintro n ⟨out, i⟩ ⟨hn, j, hj, ho, hi, hnone⟩
      simp only at ho hi hn
      subst ho hi
      cases j with
      | zero =>
        refine ⟨.brk (zfrom cells 0, ((0 : Nat) : Int) - 1), ?_, ?_, ?_⟩
        · simp only [s_l6Next_b1]
          rw [if_neg (by simp)]
        · simp [zfrom]
        · simpa using hnone
      | succ j =>
        have hjl : j < cells.length := by omega
        have hb := fit_get hf hjl
        have hs := sizes_get h3 (i := j) (by omega)
        have e : (((j + 1 : Nat) : Int) - 1) = (j : Int) := by omega
        rw [e]
        have hbody : s_l6Next_b1 m (zfrom cells (j + 1), (j : Int)) = if decide (cells[j] < m.sizes[j]'(by omega)) then some (.out ((zfrom cells (j + 1)).set j (cells[j] + 1), true)) else some (.cont (zfrom cells j, (j : Int) - 1)) := by
          simp only [s_l6Next_b1]
          rw [if_pos (by simp), idx_nat, zfrom_get cells j hjl, idx_lt (show j < m.sizes.length by omega)]
          simp only [Option.bind_some]
          rw [i64_id (n := cells[j] + 1) (by omega) (by omega), i64_id (n := (j : Int) - 1) (by omega) (by omega), Int.toNat_natCast, zfrom_zero cells j hjl]
        rw [hbody]
        by_cases hlt : cells[j] < m.sizes[j]'(by omega)
        · exact ⟨.out ((zfrom cells (j + 1)).set j (cells[j] + 1), true), by rw [if_pos (by simpa using hlt)], rfl, next_up hf hjl hnone hlt⟩
        · exact ⟨.cont (zfrom cells j, (j : Int) - 1), by rw [if_neg (by simpa using hlt)], ((j : Int) - 1 + 1).toNat,
            by omega,
            rfl, j, by omega, rfl, rfl, next_no hf hjl hnone hlt⟩)
    fu ((cells.length : Int) - 1 + 1).toNat (cells, (cells.length : Int) - 1) ⟨rfl, cells.length, Nat.le_refl _, by simp [zfrom], rfl, next_end hf⟩ (by unfold FU at hfu; omega)
  rw [hj]
  cases j with
  | nx s => obtain ⟨h1, h2⟩ := hQ; rw [h2, Option.bind_some]; simp only [h1]
  | out t => obtain ⟨h1, h2⟩ := hQ; rw [h2, Option.bind_some]; obtain ⟨a, b⟩ := t; simp only at h1; subst h1; rfl
theorem i_step {τ : Type} (sizes cells : List Int) (hf : fit sizes cells) (h5 : cells.length ≤ 1000) (fu : Nat) (hfu : FU ≤ fu) {b : (List Int × Int) → Option (Lo (List Int × Int) τ)}
    (hb : ∀ c i, b (c, i) = (if decide (i ≥ 0) then ((idx c i).bind fun x => (idx sizes i).bind fun y => some (x == y)) else some false).bind fun q => if q then ((idx c i).bind fun x => some (.cont ((c.set (Int.toNat i) 0), i64 (i - 1)))) else (some (.brk (c, i)))) :
    ∃ j : Nat, j ≤ cells.length ∧ whileL b fu (cells, i64 ((cells.length : Int) - 1)) = some (.nx (zfrom cells j, (j : Int) - 1)) ∧ (j = 0 → nextC sizes cells = none) ∧
      (∀ k, j = k + 1 → ∃ hk : k < cells.length, nextC sizes cells = some ((zfrom cells (k + 1)).set k (cells[k] + 1))) := by
  have hl := fit_len hf
  have e0 : i64 ((cells.length : Int) - 1) = (cells.length : Int) - 1 := i64_id (by omega) (by omega)
  rw [e0]
  obtain ⟨jn, hj, hQ⟩ := while_inv (b := b) (fun n s => n = (s.2 + 1).toNat ∧ ∃ j : Nat, j ≤ cells.length ∧ s.1 = zfrom cells j ∧ s.2 = (j : Int) - 1 ∧ nextC (sizes.drop j) (cells.drop j) = none)
    (fun jn => ∃ j : Nat, j ≤ cells.length ∧ jn = .nx (zfrom cells j, (j : Int) - 1) ∧ (j = 0 → nextC sizes cells = none) ∧ (∀ k, j = k + 1 → ∃ hk : k < cells.length, nextC sizes cells = some ((zfrom cells (k + 1)).set k (cells[k] + 1))))
    (by
      rintro n ⟨out, i⟩ ⟨hn, j, hj, ho, hi, hnone⟩
      simp only at ho hi hn
      subst ho hi
      cases j with
      | zero =>
        refine ⟨.brk (zfrom cells 0, ((0 : Nat) : Int) - 1), ?_, 0, Nat.zero_le _, rfl, fun _ => by simpa using hnone, fun k hk => by omega⟩
        rw [hb, if_neg (by simp)]; rfl
      | succ j =>
        have hjl : j < cells.length := by omega
        have hbd := fit_get hf hjl
        have e : (((j + 1 : Nat) : Int) - 1) = (j : Int) := by omega
        rw [e]
        have hbody : b (zfrom cells (j + 1), (j : Int)) = if cells[j] == sizes[j]'(by omega) then some (.cont (zfrom cells j, (j : Int) - 1)) else some (.brk (zfrom cells (j + 1), (j : Int))) := by
          rw [hb, if_pos (by simp), idx_nat, zfrom_get cells j hjl, idx_lt (show j < sizes.length by omega)]
          simp only [Option.bind_some]
          rw [i64_id (n := (j : Int) - 1) (by omega) (by omega), Int.toNat_natCast, zfrom_zero cells j hjl]
        rw [hbody]
        by_cases he : cells[j] = sizes[j]'(by omega)
        · exact ⟨.cont (zfrom cells j, (j : Int) - 1), by rw [if_pos (by simpa using he)], ((j : Int) - 1 + 1).toNat, by omega, rfl, j, by omega, rfl, rfl, next_no hf hjl hnone (by omega)⟩
        · refine ⟨.brk (zfrom cells (j + 1), (j : Int)), by rw [if_neg (by simpa using he)], j + 1, by omega, by rw [e], fun h => by omega, fun k hk => ?_⟩
          obtain rfl : j = k := by omega
          exact ⟨hjl, next_up hf hjl hnone (by omega)⟩)
    fu ((cells.length : Int) - 1 + 1).toNat (cells, (cells.length : Int) - 1) ⟨rfl, cells.length, Nat.le_refl _, by simp [zfrom], rfl, next_end hf⟩ (by unfold FU at hfu; omega)
  obtain ⟨j, h1, rfl, h2, h3⟩ := hQ
  exact ⟨j, h1, hj, h2, h3⟩
def prodS : List Int → Nat
  | [] => 1
  | s :: ss => (s.toNat + 1) * prodS ss
def rem : List Int → List Int → Nat
  | s :: ss, c :: cs => (s - c).toNat * prodS ss + rem ss cs
  | _, _ => 0
theorem fit_zeros : ∀ (ss : List Int), (∀ s ∈ ss, 0 ≤ s) → fit ss (List.replicate ss.length 0) ∧ rem ss (List.replicate ss.length 0) + 1 = prodS ss
  | [], _ => ⟨trivial, rfl⟩
  | s :: ss, h => by
    obtain ⟨h1, h2⟩ := fit_zeros ss fun x hx => h x (by simp [hx])
    have hs := h s (by simp)
    refine ⟨⟨⟨Int.le_refl _, hs⟩, h1⟩, ?_⟩
    show (s - 0).toNat * prodS ss + rem ss (List.replicate ss.length 0) + 1 = (s.toNat + 1) * prodS ss
    rw [Nat.add_mul, Int.sub_zero]; omega
theorem fit_nonneg : ∀ {ss cs : List Int}, fit ss cs → ∀ s ∈ ss, 0 ≤ s
  | [], _, _, s, hs => by simp at hs
  | s :: ss, [], h, _, _ => by simp [fit] at h
  | s :: ss, c :: cs, h, x, hx => by
    rcases List.mem_cons.1 hx with rfl | hx
    · have := h.1; omega
    · exact fit_nonneg h.2 x hx
theorem next_none : ∀ {ss cs : List Int}, fit ss cs → nextC ss cs = none → rem ss cs = 0
  | [], [], _, _ => rfl
  | [], _ :: _, h, _ => by simp [fit] at h
  | s :: ss, [], h, _ => by simp [fit] at h
  | s :: ss, c :: cs, h, hn => by
    obtain ⟨h0, h1⟩ := h
    unfold nextC at hn
    cases hm : nextC ss cs with
    | some t => rw [hm] at hn; simp at hn
    | none =>
      rw [hm] at hn
      simp at hn
      have := next_none h1 hm
      show (s - c).toNat * prodS ss + rem ss cs = 0
      rw [this, show (s - c).toNat = 0 from by omega]; simp
theorem next_some : ∀ {ss cs t : List Int}, fit ss cs → nextC ss cs = some t → fit ss t ∧ rem ss cs = rem ss t + 1
  | [], [], _, _, hn => by simp [nextC] at hn
  | [], _ :: _, _, h, _ => by simp [fit] at h
  | s :: ss, [], _, h, _ => by simp [fit] at h
  | s :: ss, c :: cs, t, h, hn => by
    obtain ⟨h0, h1⟩ := h
    unfold nextC at hn
    cases hm : nextC ss cs with
    | some t' =>
      rw [hm] at hn
      simp at hn
      subst hn
      obtain ⟨h2, h3⟩ := next_some h1 hm
      refine ⟨⟨h0, h2⟩, ?_⟩
      show (s - c).toNat * prodS ss + rem ss cs = (s - c).toNat * prodS ss + rem ss t' + 1
      omega
    | none =>
      rw [hm] at hn
      simp only at hn
      split at hn
      · rename_i hlt
        injection hn with hn
        subst hn
        have hz := fit_zeros ss (fit_nonneg h1)
        have hl := fit_len h1
        rw [← hl] at hz
        refine ⟨⟨⟨by omega, by omega⟩, hz.1⟩, ?_⟩
        have hr := next_none h1 hm
        show (s - c).toNat * prodS ss + rem ss cs = (s - (c + 1)).toNat * prodS ss + rem ss (List.replicate cs.length 0) + 1
        have h2 := hz.2
        rw [hr, show (s - c).toNat = (s - (c + 1)).toNat + 1 from by omega, Nat.add_mul]
        omega
      · cases hn
theorem prodS_bound : ∀ (ss : List Int), ss.all qSize = true → prodS ss ≤ 4 ^ ss.length
  | [], _ => by simp [prodS]
  | s :: ss, h => by
    rw [List.all_cons, Bool.and_eq_true] at h
    have h1 := qSize_iff.1 h.1
    have h2 := prodS_bound ss h.2
    show (s.toNat + 1) * prodS ss ≤ 4 ^ (ss.length + 1)
    rw [Nat.pow_succ, Nat.mul_comm (4 ^ ss.length)]
    exact Nat.mul_le_mul (by omega) h2
theorem rem_lt : ∀ {ss cs : List Int}, fit ss cs → rem ss cs < prodS ss
  | [], [], _ => by simp [rem, prodS]
  | [], _ :: _, h => by simp [fit] at h
  | s :: ss, [], h => by simp [fit] at h
  | s :: ss, c :: cs, h => by
    have h1 := rem_lt h.2
    have h0 := h.1
    show (s - c).toNat * prodS ss + rem ss cs < (s.toNat + 1) * prodS ss
    have : (s - c).toNat * prodS ss ≤ s.toNat * prodS ss := Nat.mul_le_mul_right _ (by omega)
    rw [Nat.add_mul]; omega
theorem rem_small {ss cs : List Int} (hf : fit ss cs) (h3 : ss.all qSize = true) (h5 : ss.length ≤ 5) : rem ss cs < 1024 := by
  have h1 := rem_lt hf
  have h2 := prodS_bound ss h3
  have h4 : 4 ^ ss.length ≤ 4 ^ 5 := Nat.pow_le_pow_right (by omega) h5
  omega
def enumFrom (ss : List Int) : Nat → List Int → List (List Int)
  | 0, _ => []
  | k + 1, cs => cs :: (match nextC ss cs with | some t => enumFrom ss k t | none => [])
def enumC (ss cs : List Int) : List (List Int) := enumFrom ss (rem ss cs + 1) cs
theorem enum_some {ss cs t : List Int} (hf : fit ss cs) (h : nextC ss cs = some t) : enumC ss cs = cs :: enumC ss t := by
  have h2 := (next_some hf h).2
  unfold enumC
  rw [enumFrom, h, h2]
theorem enum_none {ss cs : List Int} (hf : fit ss cs) (h : nextC ss cs = none) : enumC ss cs = [cs] := by
  unfold enumC
  rw [enumFrom, h]
theorem enum_len : ∀ (k : Nat) {ss cs : List Int}, rem ss cs = k → fit ss cs → (enumC ss cs).length = k + 1 := by
  intro k
  induction k with
  | zero =>
    intro ss cs hk hf
    cases h : nextC ss cs with
    | none => rw [enum_none hf h]; rfl
    | some t => have := (next_some hf h).2; omega
  | succ k ih =>
    intro ss cs hk hf
    cases h : nextC ss cs with
    | none => have := next_none hf h; omega
    | some t =>
      have := next_some hf h
      rw [enum_some hf h, List.length_cons, ih (by omega) this.1]
theorem clone_int (xs : List Int) (h : xs.length ≤ 4294967296) : slices_Clone_int xs = some xs := by
  unfold slices_Clone_int
  rw [app_le (by simpa using h)]
  rfl
end Go.L
namespace Go.L
open Go Go.E
set_option linter.unusedVariables false
set_option linter.unusedSimpArgs false
set_option maxRecDepth 100000
theorem gsum_mono {m : Model} (ha : m.sizes.all qSize = true) (c : Nat) : ∀ k, c + k ≤ m.sizes.length → gsum (m.sizes.take c) ≤ gsum (m.sizes.take (c + k))
  | 0, _ => Int.le_refl _
  | k + 1, hk => by
    have := gsum_mono ha c k (by omega)
    have hb := sizes_get ha (i := c + k) (by omega)
    have hg2 := gsum_next m.sizes (c + k) (by omega)
    rw [← Nat.add_assoc]
    omega
theorem bv_lt {m : Model} (ha : m.sizes.all qSize = true) {c d : Nat} (hcd : c < d) (hd : d < m.sizes.length) {v u : Int} (hv : v ≤ m.sizes[c]'(by omega)) (hu : 0 ≤ u) : boolVar m c v < boolVar m d u := by
  unfold boolVar
  have h1 := gsum_next m.sizes c (by omega)
  have h2 := gsum_mono ha (c + 1) (d - (c + 1)) (by omega)
  rw [show c + 1 + (d - (c + 1)) = d from by omega] at h2
  omega
theorem bv_inj {m : Model} (ha : m.sizes.all qSize = true) {c d : Nat} (hc : c < m.sizes.length) (hd : d < m.sizes.length) {v u : Int} (hv0 : 0 ≤ v) (hv : v ≤ m.sizes[c]) (hu0 : 0 ≤ u) (hu : u ≤ m.sizes[d]) (h : boolVar m c v = boolVar m d u) : c = d ∧ v = u := by
  rcases Nat.lt_trichotomy c d with hlt | heq | hgt
  · have := bv_lt ha hlt hd hv hu0; omega
  · subst heq; unfold boolVar at h; exact ⟨rfl, by omega⟩
  · have := bv_lt ha hgt hc hu hv0; omega
end Go.L
namespace Go.L
open Go Go.E
set_option linter.unusedVariables false
set_option linter.unusedSimpArgs false
set_option maxRecDepth 100000
theorem i_varsOf {m : Model} (hok : okModel m = true) {i : Nat} {x : Int} (hx : m.sizes[i]? = some x) : i_Model_varsOf m (i : Int) = some ((List.range (x.toNat + 1)).map fun (v : Nat) => boolVar m i (v : Int)) := by
  obtain ⟨h1, h5, ha, _⟩ := okModel_parts hok
  have hi := (List.getElem?_eq_some_iff.1 hx).1
  have hxe : m.sizes[i] = x := (List.getElem?_eq_some_iff.1 hx).2
  have hs := sizes_get ha hi
  unfold i_Model_varsOf
  rw [idx_lt hi, hxe, Option.bind_some, i64_id (by omega) (by omega)]
  have hk : cntF 0 (x + 1) = some (x.toNat + 1) := by rw [cntF_of (by omega) (by omega)]; congr 1; omega
  rw [hk, Option.bind_some]
  have h := count_to (b := i_Model_varsOf_b1 m (i : Int)) (fun j => (List.range j).map fun (v : Nat) => boolVar m i (v : Int)) (x.toNat + 1) 0 (by
    intro j _ hj
    have hvar := i_var m i (j : Int) (by omega) h5 ha ⟨by omega, by omega⟩
    show (i_Model_boolVar m (i : Int) (j : Int)).bind _ = _
    rw [hvar, Option.bind_some, app_le (by simp; omega), List.range_succ, List.map_append]
    rfl)
  rw [Nat.zero_add] at h
  have e0 : (List.range 0).map (fun (v : Nat) => boolVar m i (v : Int)) = [] := rfl
  rw [e0] at h
  rw [h]; rfl
end Go.L
namespace Go.L
open Go Go.E
set_option linter.unusedVariables false
set_option linter.unusedSimpArgs false
set_option maxRecDepth 100000
end Go.L
namespace Go.L
open Go Go.E
set_option linter.unusedVariables false
set_option linter.unusedSimpArgs false
set_option maxRecDepth 100000
def firstN (m : Model) : Nat → List Int → Option (List Int)
  | 0, _ => none
  | k + 1, cs => if solves m cs then some cs else match nextC m.sizes cs with | some t => firstN m k t | none => none
def first (m : Model) (cs : List Int) : Option (List Int) := firstN m (rem m.sizes cs + 1) cs
end Go.L
namespace Go.L
open Go Go.E
set_option linter.unusedVariables false
set_option linter.unusedSimpArgs false
set_option maxRecDepth 100000
def absI (n : Int) : Int := max n (-n)
def okT (t : Term) : Bool := (t.lit != 0 && decide (-12 ≤ t.lit) && decide (t.lit ≤ 12)) && (decide (1 ≤ t.coef) && decide (t.coef ≤ 1000))
def okTerms : Int → List Term → Bool
  | _, [] => true
  | b, t :: ts => (okT t && decide (b < absI t.lit)) && okTerms (absI t.lit) ts
def okB (b : Int) : Bool := decide (0 ≤ b) && decide (b ≤ 20000)
def okCon (c : Con) : Bool := okTerms 0 c.terms && okB c.bound
theorem i_valid_loop : ∀ (ts : List Term) (i : Nat) (b : Int), ∃ b', rangeL i_ConstraintValid_b1 ts i b = some (if okTerms b ts then .nx b' else .out false)
  | [], i, b => ⟨b, rfl⟩
  | t :: ts, i, b => by
    obtain ⟨b', h⟩ := i_valid_loop ts (i + 1) (absI t.lit)
    refine ⟨b', ?_⟩
    show (i_ConstraintValid_b1 i t b).bind _ = _
    have e : i_ConstraintValid_b1 i t b = some (if okT t && decide (b < absI t.lit) then .cont (absI t.lit) else .out false) := by
      unfold i_ConstraintValid_b1 i_isLiteral i_within i_variableOf okT absI
      by_cases h0 : t.lit = 0
      · simp [h0]
      by_cases h1 : -12 ≤ t.lit ∧ t.lit ≤ 12
      · rw [i64_id (n := -t.lit) (by omega) (by omega)]
        by_cases h2 : 1 ≤ t.coef ∧ t.coef ≤ 1000
        · by_cases h3 : b < max t.lit (-t.lit)
          · have : ¬ max t.lit (-t.lit) ≤ b := by omega
            simp [h0, h1.1, h1.2, h2.1, h2.2, h3, this]
          · have : max t.lit (-t.lit) ≤ b := by omega
            simp [h0, h1.1, h1.2, h2.1, h2.2, h3, this]
        · have h2' : (decide (1 ≤ t.coef) && decide (t.coef ≤ 1000)) = false := by simp; omega
          simp only [h2']
          simp [h0, h1.1, h1.2]
      · have h1' : (decide (-12 ≤ t.lit) && decide (t.lit ≤ 12)) = false := by simp; omega
        simp only [Bool.and_assoc, h1']
        simp [h0]
    rw [e, okTerms]
    cases okT t && decide (b < absI t.lit) with
    | true => simpa using h
    | false => rfl
theorem i_valid (c : Con) : i_ConstraintValid c = some (okCon c) := by
  unfold i_ConstraintValid okCon
  obtain ⟨b', h⟩ := i_valid_loop c.terms 0 0
  rw [h]
  cases okTerms 0 c.terms <;> simp [i_within, okB]
theorem s_abs (n : Int) (h1 : -9223372036854775807 ≤ n) (h2 : n ≤ 9223372036854775807) : s_l1Abs n = some (absI n) := by
  unfold s_l1Abs absI
  by_cases h : n < 0
  · rw [if_pos (by simpa using h), i64_id (by omega) (by omega)]; congr 1; omega
  · rw [if_neg (by simpa using h)]; congr 1; omega
theorem okT_lit {t : Term} (h : okT t = true) : t.lit ≠ 0 ∧ -12 ≤ t.lit ∧ t.lit ≤ 12 ∧ 1 ≤ t.coef ∧ t.coef ≤ 1000 := by
  unfold okT at h
  simp at h
  exact ⟨h.1.1.1, h.1.1.2, h.1.2, h.2.1, h.2.2⟩
theorem s_valid_loop (c : Con) (hl : c.terms.length ≤ ML) : ∀ (ts : List Term) (i : Nat) (b : Int), c.terms.drop i = ts → (i = 0 ∧ b = 0 ∨ ∃ t, 0 < i ∧ c.terms[i - 1]? = some t ∧ okT t = true ∧ b = absI t.lit) →
    rangeL (s_ConstraintValid_b1 c) ts i () = some (if okTerms b ts then .nx () else .out false)
  | [], i, b, _, _ => rfl
  | t :: ts, i, b, hd, hb => by
    show (s_ConstraintValid_b1 c i t ()).bind _ = _
    have e : s_ConstraintValid_b1 c i t () = some (if okT t && decide (b < absI t.lit) then .cont () else .out false) := by
      unfold s_ConstraintValid_b1 s_l1Lit
      by_cases hk : okT t = true
      · obtain ⟨h0, h1, h2, h3, h4⟩ := okT_lit hk
        have e1 : ((!((t.lit != 0) && decide (t.lit ≥ -12) && decide (t.lit ≤ 12)) || decide (t.coef < 1)) || decide (t.coef > 1000)) = false := by simp; omega
        simp only [Option.bind_some, e1, hk]
        have hpos : 0 < absI t.lit := by unfold absI; omega
        rcases hb with ⟨rfl, rfl⟩ | ⟨p, hi, hp, hpk, rfl⟩
        · simp [hpos]
        · obtain ⟨q0, q1, q2, _, _⟩ := okT_lit hpk
          have hil := (List.getElem?_eq_some_iff.1 hp).1
          unfold ML at hl
          have hi2 : decide ((i : Int) > 0) = true := by simpa using hi
          have e2 : idx c.terms (i64 ((i : Int) - 1)) = some p := by
            rw [i64_id (by omega) (by omega), show (i : Int) - 1 = ((i - 1 : Nat) : Int) by omega, idx_nat, hp]
          simp only [hi2, e2, Option.bind_some, s_abs p.lit (by omega) (by omega), s_abs t.lit (by omega) (by omega)]
          by_cases h5 : absI p.lit < absI t.lit
          · have : ¬ absI p.lit ≥ absI t.lit := by omega
            simp [h5, this]
          · have : absI p.lit ≥ absI t.lit := by omega
            simp [h5, this]
      · have hk' : okT t = false := by simpa using hk
        have e1 : ((!((t.lit != 0) && decide (t.lit ≥ -12) && decide (t.lit ≤ 12)) || decide (t.coef < 1)) || decide (t.coef > 1000)) = true := by
          cases hx : ((!((t.lit != 0) && decide (t.lit ≥ -12) && decide (t.lit ≤ 12)) || decide (t.coef < 1)) || decide (t.coef > 1000)) with
          | true => rfl
          | false =>
            exfalso
            apply hk
            unfold okT
            simp at hx ⊢
            omega
        simp only [Option.bind_some, e1, hk']
        rfl
    rw [e, okTerms]
    cases hok : okT t && decide (b < absI t.lit) with
    | true =>
      rw [Bool.and_eq_true] at hok
      simpa using s_valid_loop c hl ts (i + 1) (absI t.lit) (drop_next hd) (.inr ⟨t, by omega, by have := drop_idx hd; rw [idx_nat] at this; simpa using this, hok.1, rfl⟩)
    | false => rfl
theorem s_valid (c : Con) (hl : c.terms.length ≤ ML) : s_ConstraintValid c = some (okCon c) := by
  unfold s_ConstraintValid okCon
  rw [s_valid_loop c hl c.terms 0 0 rfl (.inl ⟨rfl, rfl⟩)]
  cases okTerms 0 c.terms <;> simp [okB]
end Go.L
namespace Go.L
open Go Go.E
set_option linter.unusedVariables false
set_option linter.unusedSimpArgs false
set_option maxRecDepth 100000
end Go.L
namespace Go.L
open Go Go.E
set_option linter.unusedVariables false
set_option linter.unusedSimpArgs false
set_option maxRecDepth 100000
end Go.L
namespace Go.L
open Go Go.E
set_option linter.unusedVariables false
set_option linter.unusedSimpArgs false
set_option maxRecDepth 100000
end Go.L
namespace Go.L
open Go Go.E
set_option linter.unusedVariables false
set_option linter.unusedSimpArgs false
set_option maxRecDepth 100000
end Go.L
namespace Go.L
open Go Go.E
set_option linter.unusedVariables false
set_option linter.unusedSimpArgs false
set_option maxRecDepth 100000
def asg (p : List Int) (l : Int) : List Int := if l > 0 then p.set (l - 1).toNat 1 else p.set (-l - 1).toNat (-1)
def lit12 (l : Int) : Prop := l ≠ 0 ∧ -12 ≤ l ∧ l ≤ 12
def asgL (p : List Int) (ls : List Int) : List Int := ls.foldl asg p
end Go.L
namespace Go.L
open Go Go.E
set_option linter.unusedVariables false
set_option linter.unusedSimpArgs false
set_option maxRecDepth 100000
def sumR (f : Term → Int) : List Term → Int
  | [] => 0
  | t :: ts => f t + sumR f ts
def zer (p : List Int) : Nat := p.countP (· == 0)
end Go.L
namespace Go.L
open Go Go.E
set_option linter.unusedVariables false
set_option linter.unusedSimpArgs false
set_option maxRecDepth 100000
theorem absI_neg (n : Int) : absI (-n) = absI n := by unfold absI; omega
def zeroP : List Int := List.replicate 12 0
end Go.L
namespace Go.L
open Go Go.E
set_option linter.unusedVariables false
set_option linter.unusedSimpArgs false
set_option maxRecDepth 100000
theorem i_clone_int (xs : List Int) (h : xs.length ≤ 4000000) : slices_Clone_int xs = some xs := by
  unfold slices_Clone_int
  rw [app_le (by simp; omega)]
  rfl
end Go.L
namespace Go.L
open Go Go.E
set_option linter.unusedVariables false
set_option linter.unusedSimpArgs false
set_option maxRecDepth 100000
end Go.L
namespace Go.L
open Go Go.E
set_option linter.unusedVariables false
set_option linter.unusedSimpArgs false
set_option maxRecDepth 100000
def zeroC : Con := ⟨[], 0⟩
theorem sumR_snoc (f : Term → Int) (ts : List Term) (t : Term) : sumR f (ts ++ [t]) = sumR f ts + f t := by
  induction ts with
  | nil => simp [sumR]
  | cons u ts ih => rw [List.cons_append, sumR, ih, sumR]; omega
theorem take_snoc {α : Type} {xs : List α} {i : Nat} {x : α} (h : xs[i]? = some x) : xs.take (i + 1) = xs.take i ++ [x] := by rw [List.take_add_one, h]; rfl
theorem sumR_zero {f : Term → Int} : ∀ (ts : List Term), (∀ t ∈ ts, f t = 0) → sumR f ts = 0
  | [], _ => rfl
  | t :: ts, h => by rw [sumR, h t (by simp), sumR_zero ts fun u hu => h u (by simp [hu])]; rfl
def validC (c : Con) : Con × Bool := if okCon c then (c, true) else (zeroC, false)
theorem i_valid2 (c : Con) : i_Constraint_valid c = some (validC c) := by
  unfold i_Constraint_valid validC
  rw [i_valid, Option.bind_some]
  cases okCon c <;> rfl
end Go.L
namespace Go.L
open Go Go.E
set_option linter.unusedVariables false
set_option linter.unusedSimpArgs false
set_option maxRecDepth 100000
def con1 (k : Int) (t : Term) : Int := if t.lit = k then t.coef else if t.lit = -k then -t.coef else 0
def netF (ts : List Term) (k : Int) : Int := sumR (con1 k) ts
def negS (ts : List Term) : Int := sumR (fun t => if t.lit < 0 then t.coef else 0) ts
def okLit (t : Term) : Prop := lit12 t.lit ∧ -1000 ≤ t.coef ∧ t.coef ≤ 1000
theorem sumR_abs {f : Term → Int} : ∀ (ts : List Term), (∀ t ∈ ts, -1000 ≤ f t ∧ f t ≤ 1000) → -(1000 * (ts.length : Int)) ≤ sumR f ts ∧ sumR f ts ≤ 1000 * ts.length
  | [], _ => by simp [sumR]
  | t :: ts, h => by
    have h1 := h t (by simp)
    have := sumR_abs (f := f) ts fun u hu => h u (by simp [hu])
    simp only [sumR, List.length_cons]; omega
theorem netF_bound {ts : List Term} (h : ∀ t ∈ ts, okLit t) (hl : ts.length ≤ 100) (k : Int) : -100000 ≤ netF ts k ∧ netF ts k ≤ 100000 := by
  have := sumR_abs (f := con1 k) ts fun t ht => by
    obtain ⟨_, h1, h2⟩ := h t ht
    unfold con1
    split
    · omega
    · split <;> omega
  unfold netF
  omega
theorem negS_bound {ts : List Term} (h : ∀ t ∈ ts, okLit t) (hl : ts.length ≤ 100) : -100000 ≤ negS ts ∧ negS ts ≤ 100000 := by
  have := sumR_abs (f := fun t => if t.lit < 0 then t.coef else 0) ts fun t ht => by
    obtain ⟨_, h1, h2⟩ := h t ht
    split <;> omega
  unfold negS
  omega
def rowN (ts : List Term) : List Int := (List.range 13).map fun (k : Nat) => netF ts (k : Int)
theorem rowN_len (ts : List Term) : (rowN ts).length = 13 := by simp [rowN]
theorem rowN_get (ts : List Term) (k : Nat) (h : k < 13) : (rowN ts)[k]? = some (netF ts (k : Int)) := by
  unfold rowN
  rw [List.getElem?_map, List.getElem?_range h]
  rfl
theorem netF_snoc (ts : List Term) (t : Term) (k : Int) : netF (ts ++ [t]) k = netF ts k + con1 k t := sumR_snoc _ _ _
theorem negS_snoc (ts : List Term) (t : Term) : negS (ts ++ [t]) = negS ts + (if t.lit < 0 then t.coef else 0) := sumR_snoc _ _ _
theorem row_set (ts : List Term) (t : Term) (ht : okLit t) (k : Nat) (hk : (k : Int) = absI t.lit) (y : Int) (hy : y = netF ts (k : Int) + (if t.lit > 0 then t.coef else -t.coef)) : (rowN ts).set k y = rowN (ts ++ [t]) := by
  obtain ⟨⟨h0, h1, h2⟩, _, _⟩ := ht
  unfold absI at hk
  apply List.ext_getElem?
  intro j
  by_cases hj : j < 13
  · rw [rowN_get _ _ hj, List.getElem?_set, netF_snoc, rowN_get _ _ hj, rowN_len]
    by_cases e : k = j
    · subst e
      rw [if_pos rfl, if_pos hj, hy]
      unfold con1
      congr 2
      split
      · rw [if_pos (by omega)]
      · rw [if_neg (by omega), if_pos (by omega)]
    · rw [if_neg e]
      unfold con1
      rw [if_neg (by omega), if_neg (by omega)]
      simp
  · rw [List.getElem?_eq_none (by rw [List.length_set, rowN_len]; omega), List.getElem?_eq_none (by rw [rowN_len]; omega)]
theorem net_loop {τ : Type} {b : Nat → Term → Int × List Int → Option (Lo (Int × List Int) τ)} (ts : List Term) (bound : Int) (hts : ∀ t ∈ ts, okLit t) (hl : ts.length ≤ 100) (hb0 : -100000 ≤ bound ∧ bound ≤ 100000)
    (hb : ∀ i t bd (xs : List Term), okLit t → xs.length ≤ 100 → (∀ t ∈ xs, okLit t) → -200000 ≤ bd ∧ bd ≤ 200000 → b i t (bd, rowN xs) = some (.cont (bd - (if t.lit < 0 then t.coef else 0), rowN (xs ++ [t])))) :
    rangeL b ts 0 (bound, rowN []) = some (.nx (bound - negS ts, rowN ts)) := by
  have := range_to (b := b) (fun i => (bound - negS (ts.take i), rowN (ts.take i))) ts (by
    intro i t ht
    have ho := hts t (List.mem_of_getElem? ht)
    have hoo : ∀ u ∈ ts.take i, okLit u := fun u hu => hts u (List.mem_of_mem_take hu)
    have hlen : (ts.take i).length ≤ 100 := by simp; omega
    have hn := negS_bound hoo hlen
    rw [hb i t _ _ ho hlen hoo (by omega), take_snoc ht, negS_snoc]
    congr 3
    omega)
  have e0 : (bound, rowN []) = (bound - negS (ts.take 0), rowN (ts.take 0)) := by
    have : negS (ts.take 0) = 0 := rfl
    rw [this]; simp
  rw [e0, this, List.take_length]
theorem rowN_nil : List.replicate 13 (0 : Int) = rowN [] := by decide
theorem mkRow0 : mkN 13 (0 : Int) = some (rowN []) := by rw [← rowN_nil]; exact mkN_le (n := 13) (0 : Int) (by omega)
theorem i_net_round (i : Nat) (t : Term) (bd : Int) (xs : List Term) (ho : okLit t) (hl : xs.length ≤ 100) (hxs : ∀ t ∈ xs, okLit t) (hb : -200000 ≤ bd ∧ bd ≤ 200000) :
    i_normal_b1 i t (bd, rowN xs) = some (.cont (bd - (if t.lit < 0 then t.coef else 0), rowN (xs ++ [t]))) := by
  have ho' := ho
  obtain ⟨⟨h0, h1, h2⟩, h3, h4⟩ := ho
  rw [i_normal_b1]
  by_cases h : t.lit > 0
  · obtain ⟨k, hk⟩ : ∃ k : Nat, t.lit = (k : Int) := ⟨t.lit.toNat, by omega⟩
    have hn := netF_bound hxs hl (k : Int)
    rw [if_neg (by simp; omega), hk, idx_nat, rowN_get _ _ (by omega), Option.bind_some, Int.toNat_natCast, i64_id (by omega) (by omega), if_neg (by omega),
      row_set xs t ho' k (by unfold absI; omega) (netF xs (k : Int) + t.coef) (by rw [if_pos h])]
    simp
  · obtain ⟨k, hk⟩ : ∃ k : Nat, -t.lit = (k : Int) := ⟨(-t.lit).toNat, by omega⟩
    have hn := netF_bound hxs hl (k : Int)
    rw [if_pos (by simp; omega), i64_id (n := -t.lit) (by omega) (by omega), hk, idx_nat, rowN_get _ _ (by omega), Option.bind_some, Int.toNat_natCast, i64_id (n := bd - t.coef) (by omega) (by omega), i64_id (by omega) (by omega), if_pos (by omega),
      row_set xs t ho' k (by unfold absI; omega) (netF xs (k : Int) - t.coef) (by rw [if_neg h]; omega)]
    rfl
def piece (f : Int → Int) (k : Int) : List Term := if f k > 0 then [⟨f k, k⟩] else if f k < 0 then [⟨-f k, -k⟩] else []
def normT (f : Int → Int) : Nat → List Term
  | 0 => []
  | n + 1 => normT f n ++ piece f ((n + 1 : Nat) : Int)
def minS (f : Int → Int) : Nat → Int
  | 0 => 0
  | n + 1 => minS f n + min (f ((n + 1 : Nat) : Int)) 0
def normC (ts : List Term) (bound : Int) : Con × Bool := validC ⟨normT (netF ts) 12, max 0 (bound - negS ts - minS (netF ts) 12)⟩
theorem normT_len (f : Int → Int) : ∀ n, (normT f n).length ≤ n
  | 0 => Nat.le_refl _
  | n + 1 => by
    have := normT_len f n
    rw [normT, List.length_append]
    have : (piece f ((n + 1 : Nat) : Int)).length ≤ 1 := by
      unfold piece
      split
      · simp
      · split <;> simp
    omega
theorem minS_bound {f : Int → Int} (h : ∀ k, -100000 ≤ f k ∧ f k ≤ 100000) : ∀ n : Nat, -(100000 * (n : Int)) ≤ minS f n ∧ minS f n ≤ 0
  | 0 => by simp [minS]
  | n + 1 => by
    have h1 := minS_bound h n
    have h2 := h ((n + 1 : Nat) : Int)
    rw [minS]
    omega
theorem piece_round {f : Int → Int} (hf : ∀ k, -100000 ≤ f k ∧ f k ≤ 100000) (n : Nat) (hn : n < 12) (bd : Int) (hb : -10000000 ≤ bd ∧ bd ≤ 10000000) :
    (bd - min (f ((n + 1 : Nat) : Int)) 0, normT f (n + 1)) = (if f ((n + 1 : Nat) : Int) > 0 then (bd, normT f n ++ [⟨f ((n + 1 : Nat) : Int), ((n + 1 : Nat) : Int)⟩]) else if f ((n + 1 : Nat) : Int) < 0 then (bd - f ((n + 1 : Nat) : Int), normT f n ++ [⟨-f ((n + 1 : Nat) : Int), -((n + 1 : Nat) : Int)⟩]) else (bd, normT f n)) := by
  rw [normT]
  unfold piece
  split
  · rw [show min (f ((n + 1 : Nat) : Int)) 0 = 0 by omega]; simp
  · split
    · rw [show min (f ((n + 1 : Nat) : Int)) 0 = f ((n + 1 : Nat) : Int) by omega]
    · rw [show min (f ((n + 1 : Nat) : Int)) 0 = 0 by omega]; simp
theorem s_norm {ts : List Term} (hts : ∀ t ∈ ts, okLit t) (hl : ts.length ≤ 100) (bd : Int) (hb : -300000 ≤ bd ∧ bd ≤ 300000) : s_l1Normal (rowN ts) bd = some (validC ⟨normT (netF ts) 12, max 0 (bd - minS (netF ts) 12)⟩) := by
  unfold s_l1Normal
  have e : cntF 1 (12 + 1) = some 12 := by rw [cntF_of (s := 1) (by omega) (by omega)]; congr 1
  have hf := fun k => netF_bound hts hl k
  rw [e, Option.bind_some]
  have := count_to (b := s_l1Normal_b1 (rowN ts)) (fun i => (bd - minS (netF ts) (i - 1), normT (netF ts) (i - 1))) 12 1 (by
    intro i h1 h2
    obtain ⟨n, rfl⟩ : ∃ n, i = n + 1 := ⟨i - 1, by omega⟩
    simp only [Nat.add_sub_cancel]
    have hm := minS_bound hf n
    have hfn := hf ((n + 1 : Nat) : Int)
    have hnl := normT_len (netF ts) n
    have e2 : (bd - minS (netF ts) (n + 1), normT (netF ts) (n + 1)) = (bd - minS (netF ts) n - min (netF ts ((n + 1 : Nat) : Int)) 0, normT (netF ts) (n + 1)) := by rw [minS]; congr 1; omega
    rw [e2, piece_round hf n (by omega) _ (by omega), s_l1Normal_b1, idx_nat, rowN_get _ _ (by omega), Option.bind_some]
    by_cases c1 : netF ts ((n + 1 : Nat) : Int) > 0
    · have c2 : ¬ netF ts ((n + 1 : Nat) : Int) < 0 := by omega
      simp only [c1, c2, decide_true, decide_false, if_true, Bool.false_eq_true, if_false]
      rw [app_le (by simp; omega)]
      rfl
    · by_cases c2 : netF ts ((n + 1 : Nat) : Int) < 0
      · simp only [c1, c2, decide_true, decide_false, if_true, Bool.false_eq_true, if_false, Option.bind_some]
        rw [app_le (by simp; omega), i64_id (n := -netF ts ((n + 1 : Nat) : Int)) (by omega) (by omega), i64_id (n := -((n + 1 : Nat) : Int)) (by omega) (by omega), Option.bind_some, i64_id (by omega) (by omega)]
        rfl
      · simp only [c1, c2, decide_false, Bool.false_eq_true, if_false, Option.bind_some])
  have e0 : (bd, ([] : List Term)) = (bd - minS (netF ts) (1 - 1), normT (netF ts) (1 - 1)) := by simp [minS, normT]
  rw [e0, this, Option.bind_some]
  simp only [show 1 + 12 - 1 = 12 from rfl]
  have hnl := normT_len (netF ts) 12
  have em : (if decide (bd - minS (netF ts) 12 < 0) then (some 0) else (some (bd - minS (netF ts) 12)) : Option Int) = some (max 0 (bd - minS (netF ts) 12)) := by
    by_cases h : bd - minS (netF ts) 12 < 0
    · rw [if_pos (decide_eq_true h)]; congr 1; omega
    · rw [if_neg (by simpa using h)]; congr 1; omega
  rw [em, Option.bind_some, s_valid _ (by unfold ML; simp only; omega), Option.bind_some, validC]
  cases okCon ⟨normT (netF ts) 12, max 0 (bd - minS (netF ts) 12)⟩ <;> rfl
theorem netF_zero {ts : List Term} (hts : ∀ t ∈ ts, okLit t) : netF ts 0 = 0 :=
  sumR_zero ts fun t ht => by
    have := (hts t ht).1.1
    unfold con1
    rw [if_neg (by omega), if_neg (by omega)]
theorem i_norm {ts : List Term} (hts : ∀ t ∈ ts, okLit t) (hl : ts.length ≤ 100) (bound : Int) (hb : -100000 ≤ bound ∧ bound ≤ 100000) : i_normal ts bound = some (normC ts bound) := by
  unfold i_normal
  have hns := negS_bound hts hl
  rw [rowN_nil, net_loop (b := i_normal_b1) ts bound hts hl hb i_net_round, Option.bind_some]
  simp only
  have e : cntF 0 13 = some 13 := cntF_nat (n := 13) (by omega)
  have hf := fun k => netF_bound hts hl k
  rw [e, Option.bind_some]
  generalize hbd : bound - negS ts = bd
  have hbd2 : -300000 ≤ bd ∧ bd ≤ 300000 := by omega
  have r0 : i_normal_b2 (rowN ts) 0 (bd, []) = some (.cont (bd, [])) := by
    rw [i_normal_b2, idx_nat, rowN_get _ _ (by omega), Option.bind_some]
    have z : netF ts ((0 : Nat) : Int) = 0 := netF_zero hts
    rw [z]
    rfl
  have := count_to (b := i_normal_b2 (rowN ts)) (fun i => (bd - minS (netF ts) (i - 1), normT (netF ts) (i - 1))) 12 1 (by
    intro i h1 h2
    obtain ⟨n, rfl⟩ : ∃ n, i = n + 1 := ⟨i - 1, by omega⟩
    simp only [Nat.add_sub_cancel]
    have hm := minS_bound hf n
    have hfn := hf ((n + 1 : Nat) : Int)
    have hnl := normT_len (netF ts) n
    have e2 : (bd - minS (netF ts) (n + 1), normT (netF ts) (n + 1)) = (bd - minS (netF ts) n - min (netF ts ((n + 1 : Nat) : Int)) 0, normT (netF ts) (n + 1)) := by rw [minS]; congr 1; omega
    rw [e2, piece_round hf n (by omega) _ (by omega), i_normal_b2, idx_nat, rowN_get _ _ (by omega), Option.bind_some]
    by_cases c1 : netF ts ((n + 1 : Nat) : Int) > 0
    · simp only [c1, decide_true, if_true]
      rw [app_le (by simp; omega)]
      rfl
    · by_cases c2 : netF ts ((n + 1 : Nat) : Int) < 0
      · simp only [c1, c2, decide_true, decide_false, if_true, Bool.false_eq_true, if_false]
        rw [app_le (by simp; omega), i64_id (n := -netF ts ((n + 1 : Nat) : Int)) (by omega) (by omega), i64_id (n := -((n + 1 : Nat) : Int)) (by omega) (by omega), Option.bind_some, i64_id (by omega) (by omega)]
        rfl
      · simp only [c1, c2, decide_false, Bool.false_eq_true, if_false, Option.bind_some])
  have e0 : (bd, ([] : List Term)) = (bd - minS (netF ts) (1 - 1), normT (netF ts) (1 - 1)) := by simp [minS, normT]
  have e13 : countL (i_normal_b2 (rowN ts)) 13 0 (bd, []) = some (.nx (bd - minS (netF ts) 12, normT (netF ts) 12)) := by
    show (i_normal_b2 (rowN ts) 0 (bd, [])).bind _ = _
    rw [r0]
    show countL (i_normal_b2 (rowN ts)) 12 1 (bd, []) = _
    rw [e0, this]
  rw [e13, Option.bind_some]
  simp only
  rw [i_valid2, Option.bind_some]
  unfold normC
  rw [hbd]
end Go.L
namespace Go.L
open Go Go.E
set_option linter.unusedVariables false
set_option linter.unusedSimpArgs false
set_option maxRecDepth 100000
end Go.L
namespace Go.L
open Go Go.E
set_option linter.unusedVariables false
set_option linter.unusedSimpArgs false
set_option maxRecDepth 100000
end Go.L
namespace Go.L
open Go Go.E
set_option linter.unusedVariables false
set_option linter.unusedSimpArgs false
set_option maxRecDepth 100000
end Go.L
namespace Go.L
open Go Go.E
set_option linter.unusedVariables false
set_option linter.unusedSimpArgs false
set_option maxRecDepth 100000
end Go.L
namespace Go.L
open Go Go.E
set_option linter.unusedVariables false
set_option linter.unusedSimpArgs false
set_option maxRecDepth 100000
def zeroC' : Con := ⟨[], 0⟩
def seenAt (ls : List Int) (v : Int) : Int := if ls.contains v then v else if ls.contains (-v) then -v else 0
def clT (ls : List Int) : Nat → List Term
  | 0 => []
  | n + 1 => clT ls n ++ (if seenAt ls ((n + 1 : Nat) : Int) ≠ 0 then [⟨1, seenAt ls ((n + 1 : Nat) : Int)⟩] else [])
def clC (ls : List Int) : Con := ⟨clT ls 12, 1⟩
def litOk (l : Int) : Bool := l != 0 && (decide (-12 ≤ l) && decide (l ≤ 12))
theorem litOk_iff {l : Int} : litOk l = true ↔ lit12 l := by unfold litOk lit12; simp
def clOk (ls : List Int) : Bool := ls.all fun l => litOk l && !ls.contains (-l)
def clauseP (ls : List Int) : Con × Bool := if ls.length ≤ 40 && clOk ls then (clC ls, true) else (zeroC', false)
theorem clOk_iff {ls : List Int} : clOk ls = true ↔ ∀ l ∈ ls, lit12 l ∧ ¬ (-l) ∈ ls := by
  unfold clOk
  rw [List.all_eq_true]
  constructor
  · intro h l hl
    have := h l hl
    rw [Bool.and_eq_true, litOk_iff] at this
    exact ⟨this.1, by simpa using this.2⟩
  · intro h l hl
    rw [Bool.and_eq_true, litOk_iff]
    exact ⟨(h l hl).1, by simpa using (h l hl).2⟩
def seenR (ls : List Int) : List Int := (List.range 13).map fun (k : Nat) => seenAt ls (k : Int)
theorem seenR_get (ls : List Int) (k : Nat) (h : k < 13) : (seenR ls)[k]? = some (seenAt ls (k : Int)) := by
  unfold seenR
  rw [List.getElem?_map, List.getElem?_range h]
  rfl
theorem seenR_len (ls : List Int) : (seenR ls).length = 13 := by simp [seenR]
theorem seenAt_snoc {ls : List Int} {l : Int} (hl : lit12 l) (h : ¬ (-l) ∈ ls) (h0 : ∀ x ∈ ls, lit12 x) (k : Nat) (hk : k < 13) : seenAt (ls ++ [l]) (k : Int) = if (k : Int) = absI l then l else seenAt ls (k : Int) := by
  obtain ⟨a0, a1, a2⟩ := hl
  unfold seenAt absI
  simp only [List.contains_eq_mem, List.mem_append, List.mem_singleton, decide_eq_true_eq]
  by_cases e : (k : Int) = max l (-l)
  · rw [if_pos e]
    by_cases hp : l > 0
    · have ek : (k : Int) = l := by omega
      rw [if_pos (.inr ek), ek]
    · have ek : (k : Int) = -l := by omega
      have n1 : ¬ ((k : Int) ∈ ls ∨ (k : Int) = l) := by
        rintro (h1 | h1)
        · rw [ek] at h1; exact h h1
        · omega
      rw [if_neg n1, if_pos (.inr (by omega))]
      omega
  · rw [if_neg e]
    have n1 : ((k : Int) ∈ ls ∨ (k : Int) = l) ↔ (k : Int) ∈ ls := ⟨fun h => h.elim id fun h => by exfalso; omega, .inl⟩
    have n2 : (-(k : Int) ∈ ls ∨ -(k : Int) = l) ↔ -(k : Int) ∈ ls := ⟨fun h => h.elim id fun h => by exfalso; omega, .inl⟩
    simp only [n1, n2]
theorem mk13 : mkN 13 (0 : Int) = some (seenR []) := by
  have : List.replicate 13 (0 : Int) = seenR [] := by decide
  rw [← this]; exact mkN_le (n := 13) (0 : Int) (by omega)
theorem take_snoc1 {α : Type} {xs : List α} {i : Nat} {x : α} (h : xs[i]? = some x) : xs.take (i + 1) = xs.take i ++ [x] := by rw [List.take_add_one, h]; rfl
theorem clT_len (ls : List Int) : ∀ n, (clT ls n).length ≤ n
  | 0 => Nat.le_refl _
  | n + 1 => by
    have := clT_len ls n
    rw [clT, List.length_append]
    split <;> simp <;> omega
theorem s_abs' {l : Int} (h : lit12 l) : s_l1Abs l = some (absI l) := s_abs l (by have := h.2.1; omega) (by have := h.2.2; omega)
theorem s_clause (ls : List Int) : s_ClauseOf ls = some (clauseP ls) := by
  unfold s_ClauseOf clauseP
  rw [mk13, Option.bind_some]
  by_cases h40 : ls.length ≤ 40
  · rw [if_neg (by simp; omega)]
    have hd : decide (ls.length ≤ 40) = true := decide_eq_true h40
    rw [hd, Bool.true_and]
    obtain ⟨j, hj, hQ⟩ := range_inv (b := s_ClauseOf_b1) ls (fun i s => s = seenR (ls.take i) ∧ clOk (ls.take i) = true)
      (fun j => match j with | .nx s => s = seenR ls ∧ clOk ls = true | .out t => t = (zeroC', false) ∧ clOk ls = false)
      (fun s h => by simpa using h) (by
        rintro i l s hl ⟨rfl, hok⟩
        have hi := (List.getElem?_eq_some_iff.1 hl).1
        have hml := List.mem_of_getElem? hl
        rw [s_ClauseOf_b1]
        unfold s_l1Lit
        cases hlo : litOk l with
        | false =>
          refine ⟨.out (zeroC', false), ?_, rfl, ?_⟩
          · have : (((l != 0) && (decide (l ≥ (-12)))) && (decide (l ≤ 12))) = false := by rw [← hlo]; unfold litOk; rw [Bool.and_assoc]
            rw [this]; rfl
          · cases hc : clOk ls with
            | false => rfl
            | true => rw [litOk_iff.2 (clOk_iff.1 hc l hml).1] at hlo; cases hlo
        | true =>
          have h12 := litOk_iff.1 hlo
          obtain ⟨a0, a1, a2⟩ := h12
          have : (((l != 0) && (decide (l ≥ (-12)))) && (decide (l ≤ 12))) = true := by rw [← hlo]; unfold litOk; rw [Bool.and_assoc]
          rw [this]
          simp only [Option.bind_some, Bool.not_true, Bool.false_eq_true, if_false]
          obtain ⟨k, hk⟩ : ∃ k : Nat, absI l = (k : Int) := ⟨(absI l).toNat, by unfold absI; omega⟩
          have hk13 : k < 13 := by unfold absI at hk; omega
          rw [s_abs' ⟨a0, a1, a2⟩, Option.bind_some, hk, idx_nat, seenR_get _ _ hk13, Option.bind_some, i64_id (by omega) (by omega)]
          have hnn : ∀ x ∈ ls.take i, lit12 x := fun x hx => (clOk_iff.1 hok x hx).1
          by_cases hc : (-l) ∈ ls.take i
          · refine ⟨.out (zeroC', false), ?_, rfl, ?_⟩
            · have hs : seenAt (ls.take i) (k : Int) = -l := by
                have hnl : ¬ l ∈ ls.take i := fun h => by
                  have := (clOk_iff.1 hok (-l) hc).2
                  rw [Int.neg_neg] at this
                  exact this h
                unfold seenAt
                unfold absI at hk
                simp only [List.contains_eq_mem, decide_eq_true_eq]
                by_cases hp : l > 0
                · have e1 : (k : Int) = l := by omega
                  rw [e1, if_neg hnl, if_pos hc]
                · have e1 : (k : Int) = -l := by omega
                  rw [e1, if_pos hc]
              rw [hs, beq_self_eq_true]
              rfl
            · cases hx : clOk ls with
              | false => rfl
              | true => exact absurd (List.mem_of_mem_take hc) (clOk_iff.1 hx l hml).2
          · have hs : (seenAt (ls.take i) (k : Int) == -l) = false := by
              unfold seenAt
              unfold absI at hk
              simp only [List.contains_eq_mem, decide_eq_true_eq]
              rw [beq_eq_false_iff_ne]
              intro e
              split at e
              · rename_i hm; rw [e] at hm; exact hc hm
              · split at e
                · rename_i hm; rw [e] at hm; exact hc hm
                · omega
            rw [hs]
            refine ⟨.cont (seenR (ls.take (i + 1))), ?_, rfl, ?_⟩
            · simp only [Bool.false_eq_true, if_false, Int.toNat_natCast]
              congr 2
              rw [take_snoc1 hl]
              apply List.ext_getElem?
              intro q
              by_cases hq : q < 13
              · rw [seenR_get _ _ hq, List.getElem?_set, seenAt_snoc ⟨a0, a1, a2⟩ hc hnn q hq, seenR_len, seenR_get _ _ hq]
                by_cases e : k = q
                · subst e; rw [if_pos rfl, if_pos hk13, hk, if_pos rfl]
                · rw [if_neg e, hk, if_neg (by omega)]
              · rw [List.getElem?_eq_none (by rw [List.length_set, seenR_len]; omega), List.getElem?_eq_none (by rw [seenR_len]; omega)]
            · rw [take_snoc1 hl, clOk_iff]
              intro x hx
              rcases List.mem_append.1 hx with hx | hx
              · have := clOk_iff.1 hok x hx
                refine ⟨this.1, fun hm => ?_⟩
                rcases List.mem_append.1 hm with hm | hm
                · exact this.2 hm
                · rw [List.mem_singleton] at hm
                  apply hc
                  rw [← hm, Int.neg_neg]; exact hx
              · rw [List.mem_singleton] at hx
                subst hx
                refine ⟨⟨a0, a1, a2⟩, fun hm => ?_⟩
                rcases List.mem_append.1 hm with hm | hm
                · exact hc hm
                · rw [List.mem_singleton] at hm; omega) (seenR []) ⟨rfl, rfl⟩
    rw [hj, Option.bind_some]
    cases j with
    | out t => obtain ⟨rfl, h⟩ := hQ; rw [h]; rfl
    | nx s =>
      obtain ⟨rfl, h⟩ := hQ
      rw [h]
      simp only [if_true]
      have e : cntF 1 (12 + 1) = some 12 := by rw [cntF_of (s := 1) (by omega) (by omega)]; congr 1
      rw [e, Option.bind_some]
      have := count_to (b := s_ClauseOf_b2 (seenR ls)) (fun i => clT ls (i - 1)) 12 1 (by
        intro i h1 h2
        obtain ⟨n, rfl⟩ : ∃ n, i = n + 1 := ⟨i - 1, by omega⟩
        have hl := clT_len ls n
        rw [s_ClauseOf_b2, idx_nat, seenR_get _ _ (by omega), Option.bind_some]
        simp only [Nat.add_sub_cancel, clT]
        by_cases hz : seenAt ls ((n + 1 : Nat) : Int) = 0
        · have hz' : (seenAt ls ((n + 1 : Nat) : Int) != 0) = false := by simpa using hz
          rw [hz', if_neg (by simp), if_neg (by simpa using hz), List.append_nil]
          rfl
        · have hz' : (seenAt ls ((n + 1 : Nat) : Int) != 0) = true := by simpa using hz
          rw [hz', if_pos rfl, app_le (by simp; omega), if_pos hz]
          rfl)
      have e0 : ([] : List Term) = clT ls (1 - 1) := rfl
      rw [e0, this]
      rfl
  · rw [if_pos (by simp; omega), decide_eq_false h40]
    rfl
end Go.L
namespace Go.L
open Go Go.E
set_option linter.unusedVariables false
set_option linter.unusedSimpArgs false
set_option maxRecDepth 100000
def leA (a b : Int) : Prop := absI a ≤ absI b
theorem i_cmp {a b : Int} (ha : lit12 a) (hb : lit12 b) : i_ClauseOf_1 a b = some (absI a - absI b) := by
  obtain ⟨_, a1, a2⟩ := ha
  obtain ⟨_, b1, b2⟩ := hb
  unfold i_ClauseOf_1 i_variableOf
  rw [i64_id (n := -a) (by omega) (by omega), Option.bind_some, i64_id (n := -b) (by omega) (by omega), Option.bind_some]
  show some (i64 (absI a - absI b)) = _
  rw [i64_id (by unfold absI; omega) (by unfold absI; omega)]
theorem set_mid {α : Type} (pre : List α) (y x z : α) (r : List α) (k : Nat) (hk : k = pre.length) : (pre ++ x :: r).set k y = pre ++ y :: r := by
  subst hk
  rw [List.set_append_right _ _ (Nat.le_refl _), Nat.sub_self, List.set_cons_zero]
theorem ins_loop (a : Int) (ha : a = 0) (x : Int) (hx : lit12 x) (rest : List Int) : ∀ (n : Nat) (pre mid : List Int) (k : Nat), pre.length = n → n < k → pre.length ≤ 100 → (∀ y ∈ pre, lit12 y) →
    ∃ p q, p ++ q = pre ∧ whileL (slices_insertionSortCmpFunc_int_b2 a i_ClauseOf_1) k (pre ++ x :: (mid ++ rest), (n : Int)) = some (.nx (p ++ x :: (q ++ mid ++ rest), (p.length : Int))) ∧ (∀ y ∈ q, absI x < absI y) ∧ (∀ y, p.getLast? = some y → absI y ≤ absI x)
  | 0, pre, mid, k, hn, hk, h1, h2 => by
    obtain ⟨k, rfl⟩ : ∃ k', k = k' + 1 := ⟨k - 1, by omega⟩
    have hp : pre = [] := List.length_eq_zero_iff.1 hn
    subst hp ha
    refine ⟨[], [], rfl, ?_, by simp, by simp⟩
    show (slices_insertionSortCmpFunc_int_b2 0 i_ClauseOf_1 _).bind _ = _
    rw [slices_insertionSortCmpFunc_int_b2]
    simp
  | n + 1, pre, mid, k, hn, hk, h1, h2 => by
    obtain ⟨k, rfl⟩ : ∃ k', k = k' + 1 := ⟨k - 1, by omega⟩
    subst ha
    obtain ⟨pre', y, rfl⟩ : ∃ p y, pre = p ++ [y] := by
      refine ⟨pre.dropLast, pre.getLast (by intro h; subst h; simp at hn), ?_⟩
      exact (List.dropLast_concat_getLast _).symm
    have hl : pre'.length = n := by simpa using hn
    have hy := h2 y (by simp)
    have i1 : idx (pre' ++ [y] ++ x :: (mid ++ rest)) ((n + 1 : Nat) : Int) = some x := by
      rw [idx_nat, List.getElem?_append_right (by simp; omega)]
      simp [hl]
    have i2 : idx (pre' ++ [y] ++ x :: (mid ++ rest)) (i64 (((n + 1 : Nat) : Int) - 1)) = some y := by
      rw [i64_id (by omega) (by omega), show ((n + 1 : Nat) : Int) - 1 = (n : Int) by omega, idx_nat, List.append_assoc, List.getElem?_append_right (by omega), hl, Nat.sub_self]
      rfl
    have ec : (if decide (((n + 1 : Nat) : Int) > 0) then ((idx (pre' ++ [y] ++ x :: (mid ++ rest)) ((n + 1 : Nat) : Int)).bind fun x14 => (idx (pre' ++ [y] ++ x :: (mid ++ rest)) (i64 (((n + 1 : Nat) : Int) - 1))).bind fun x19 => (i_ClauseOf_1 x14 x19).bind fun x22 => some (decide (x22 < 0))) else some false) = some (decide (absI x < absI y)) := by
      rw [if_pos (decide_eq_true (by omega)), i1, Option.bind_some, i2, Option.bind_some, i_cmp hx hy, Option.bind_some]
      congr 1
      by_cases h : absI x < absI y
      · rw [decide_eq_true h, decide_eq_true (by omega)]
      · rw [decide_eq_false h, decide_eq_false (by omega)]
    by_cases hc : absI x < absI y
    · obtain ⟨p, q, e1, e2, e3, e4⟩ := ins_loop 0 rfl x hx rest n pre' (y :: mid) k hl (by omega) (by simp at h1; omega) (fun z hz => h2 z (by simp [hz]))
      refine ⟨p, q ++ [y], by rw [← e1]; simp, ?_, ?_, e4⟩
      · show (slices_insertionSortCmpFunc_int_b2 0 i_ClauseOf_1 _).bind _ = _
        rw [slices_insertionSortCmpFunc_int_b2, ec, Option.bind_some, decide_eq_true hc, if_pos rfl, i2, Option.bind_some, i1, Option.bind_some]
        have s1 : (pre' ++ [y] ++ x :: (mid ++ rest)).set (Int.toNat ((n + 1 : Nat) : Int)) y = pre' ++ [y] ++ y :: (mid ++ rest) := set_mid _ y x x _ _ (by simp; omega)
        have e5 : i64 (((n + 1 : Nat) : Int) - 1) = (n : Int) := by rw [i64_id (by omega) (by omega)]; omega
        rw [s1, e5]
        have i3 : idx (pre' ++ [y] ++ y :: (mid ++ rest)) (n : Int) = some y := by
          rw [idx_nat, List.append_assoc, List.getElem?_append_right (by omega), hl, Nat.sub_self]
          rfl
        rw [i3, Option.bind_some]
        have s2 : (pre' ++ [y] ++ y :: (mid ++ rest)).set (Int.toNat (n : Int)) x = pre' ++ x :: (y :: (mid ++ rest)) := by
          rw [List.append_assoc]
          exact set_mid pre' x y y _ _ (by simp; omega)
        rw [s2]
        show whileL (slices_insertionSortCmpFunc_int_b2 0 i_ClauseOf_1) k (pre' ++ x :: (y :: mid ++ rest), (n : Int)) = _
        rw [e2]
        simp
      · intro z hz
        rcases List.mem_append.1 hz with hz | hz
        · exact e3 z hz
        · rw [List.mem_singleton] at hz; subst hz; exact hc
    · refine ⟨pre' ++ [y], [], by simp, ?_, by simp, ?_⟩
      · show (slices_insertionSortCmpFunc_int_b2 0 i_ClauseOf_1 _).bind _ = _
        rw [slices_insertionSortCmpFunc_int_b2, ec, Option.bind_some, decide_eq_false hc]
        simp [hl]
      · intro z hz
        simp at hz
        subst hz
        omega
def sortedA (xs : List Int) : Prop := xs.Pairwise leA
theorem ins_sorted {p q : List Int} {x : Int} (h : sortedA (p ++ q)) (h1 : ∀ y ∈ q, absI x < absI y) (h2 : ∀ y, p.getLast? = some y → absI y ≤ absI x) : sortedA (p ++ x :: q) := by
  unfold sortedA at *
  rw [List.pairwise_append] at h
  obtain ⟨hp, hq, hpq⟩ := h
  have hpx : ∀ y ∈ p, leA y x := by
    intro y hy
    cases hlast : p.getLast? with
    | none => rw [List.getLast?_eq_none_iff] at hlast; subst hlast; cases hy
    | some z =>
      have hz := h2 z hlast
      have : leA y z := by
        obtain ⟨p', rfl⟩ : ∃ p', p = p' ++ [z] := by
          rw [List.getLast?_eq_some_iff] at hlast
          exact hlast
        rw [List.pairwise_append] at hp
        rcases List.mem_append.1 hy with hy | hy
        · exact hp.2.2 y hy z (by simp)
        · rw [List.mem_singleton] at hy; subst hy; exact Int.le_refl _
      exact Int.le_trans this hz
  rw [List.pairwise_append]
  refine ⟨hp, ?_, ?_⟩
  · rw [List.pairwise_cons]
    exact ⟨fun y hy => Int.le_of_lt (h1 y hy), hq⟩
  · intro y hy z hz
    rcases List.mem_cons.1 hz with rfl | hz
    · exact hpx y hy
    · exact hpq y hy z hz
theorem sort_loop (fu : Nat) (hf : FU ≤ fu) (ls : List Int) (hl : ∀ l ∈ ls, lit12 l) (h12 : ls.length ≤ 12) (h1 : 1 ≤ ls.length) : ∃ r, slices_insertionSortCmpFunc_int fu ls 0 (ls.length : Int) i_ClauseOf_1 = some r ∧ r.Perm ls ∧ sortedA r := by
  unfold FU at hf
  unfold slices_insertionSortCmpFunc_int
  obtain ⟨j, hj, hQ⟩ := while_inv (b := slices_insertionSortCmpFunc_int_b1 fu 0 (ls.length : Int) i_ClauseOf_1)
    (fun n (s : List Int × Int) => ∃ i : Nat, s.2 = (i : Int) ∧ i + n = ls.length ∧ ∃ P, s.1 = P ++ ls.drop i ∧ P.Perm (ls.take i) ∧ sortedA P)
    (fun j => ∃ r k, j = .nx (r, k) ∧ r.Perm ls ∧ sortedA r) (fun n s hI => by
      obtain ⟨d, k⟩ := s
      obtain ⟨i, hk, hi, P, hd, hp, hs⟩ := hI
      simp only at hk hd
      subst hk hd
      cases n with
      | zero =>
        refine ⟨_, by rw [slices_insertionSortCmpFunc_int_b1, if_neg (by simp; omega)], ?_⟩
        have : i = ls.length := by omega
        subst this
        rw [List.take_length] at hp
        exact ⟨_, _, rfl, by simpa using hp, by simpa using hs⟩
      | succ n =>
        have hil : i < ls.length := by omega
        have hdr : ls.drop i = ls[i] :: ls.drop (i + 1) := List.drop_eq_getElem_cons hil
        have hpl : P.length = i := by rw [hp.length_eq]; simp; omega
        have hP : ∀ y ∈ P, lit12 y := fun y hy => hl y (List.mem_of_mem_take (hp.mem_iff.1 hy))
        obtain ⟨p, q, e1, e2, e3, e4⟩ := ins_loop 0 rfl ls[i] (hl _ (List.getElem_mem hil)) (ls.drop (i + 1)) i P [] fu hpl (by omega) (by omega) hP
        refine ⟨.cont (p ++ ls[i] :: (q ++ [] ++ ls.drop (i + 1)), ((i + 1 : Nat) : Int)), ?_, n, by omega, i + 1, rfl, by omega, p ++ ls[i] :: q, by simp, ?_, ?_⟩
        · rw [slices_insertionSortCmpFunc_int_b1, if_pos (decide_eq_true (by omega)), hdr]
          show ((whileL _ fu (P ++ ls[i] :: ([] ++ ls.drop (i + 1)), (i : Int))).bind _) = _
          rw [e2, Option.bind_some]
          simp only
          rw [i64_id (by omega) (by omega)]
          rfl
        · rw [take_snoc1 (List.getElem?_eq_getElem hil)]
          have h1 : (p ++ ls[i] :: q).Perm (ls[i] :: (p ++ q)) := List.perm_middle
          rw [e1] at h1
          refine h1.trans ?_
          have h2 : (ls[i] :: P).Perm (ls[i] :: ls.take i) := hp.cons _
          refine h2.trans ?_
          exact (List.perm_append_singleton _ _).symm
        · rw [← e1] at hs
          exact ins_sorted hs e3 e4)
    fu (ls.length - 1) (ls, i64 (0 + 1)) ⟨1, by simp [i64_id], by omega, ls.take 1, (List.take_append_drop 1 ls).symm, List.Perm.refl _, by
      obtain ⟨a, t, rfl⟩ : ∃ a t, ls = a :: t := by
        cases ls with
        | nil => simp at h1
        | cons a t => exact ⟨a, t, rfl⟩
      simp [sortedA]⟩ (by omega)
  rw [hj]
  obtain ⟨r, k, rfl, h2, h3⟩ := hQ
  exact ⟨r, rfl, h2, h3⟩
theorem sort_all (fu : Nat) (hf : FU ≤ fu) (ls : List Int) (hl : ∀ l ∈ ls, lit12 l) (h12 : ls.length ≤ 12) : ∃ r, slices_SortFunc_int fu ls i_ClauseOf_1 = some r ∧ r.Perm ls ∧ sortedA r := by
  have hF := hf
  unfold FU at hf
  have h0 : ∃ r, slices_insertionSortCmpFunc_int fu ls 0 (ls.length : Int) i_ClauseOf_1 = some r ∧ r.Perm ls ∧ sortedA r := by
    by_cases h1 : 1 ≤ ls.length
    · exact sort_loop fu hF ls hl h12 h1
    · have : ls = [] := List.length_eq_zero_iff.1 (by omega)
      subst this
      refine ⟨[], ?_, List.Perm.refl _, List.Pairwise.nil⟩
      unfold slices_insertionSortCmpFunc_int
      obtain ⟨k, rfl⟩ : ∃ k, fu = k + 1 := ⟨fu - 1, by omega⟩
      have : whileL (slices_insertionSortCmpFunc_int_b1 (k + 1) 0 (([] : List Int).length : Int) i_ClauseOf_1) (k + 1) ([], i64 (0 + 1)) = some (.nx ([], i64 (0 + 1))) := by
        show (slices_insertionSortCmpFunc_int_b1 (k + 1) 0 (([] : List Int).length : Int) i_ClauseOf_1 ([], i64 (0 + 1))).bind _ = _
        rw [slices_insertionSortCmpFunc_int_b1, if_neg (by rw [i64_id (by omega) (by omega)]; simp)]
        rfl
      rw [this]
      rfl
  obtain ⟨r, h1, h2, h3⟩ := h0
  refine ⟨r, ?_, h2, h3⟩
  unfold slices_SortFunc_int
  have hb : bits_Len (IntKind.u64.wrap (ls.length : Int)) = some (Go.Lib.bitLen (IntKind.u64.wrap (ls.length : Int)).toNat : Int) := by
    unfold bits_Len
    have : IntKind.u64.wrap (ls.length : Int) = (ls.length : Int) := by rw [IntKind.wrap_u64]; omega
    rw [this, if_pos (by omega)]
  rw [hb, Option.bind_some]
  unfold slices_pdqsortCmpFunc_int
  obtain ⟨k, rfl⟩ : ∃ k, fu = k + 1 := ⟨fu - 1, by omega⟩
  have : whileL (slices_pdqsortCmpFunc_int_b1 (k + 1) ls 0 (ls.length : Int) i_ClauseOf_1) (k + 1) () = some (.out r) := by
    show (slices_pdqsortCmpFunc_int_b1 (k + 1) ls 0 (ls.length : Int) i_ClauseOf_1 ()).bind _ = _
    rw [slices_pdqsortCmpFunc_int_b1, i64_id (by omega) (by omega), if_pos (decide_eq_true (by omega)), h1]
    rfl
  rw [this]
  rfl
theorem i_containsI (xs : List Int) (v : Int) : slices_Contains_int xs v = some (xs.contains v) := by
  unfold slices_Contains_int slices_Index_int
  obtain ⟨j, h1, h2⟩ := range_index (q := fun x => v == x) (b := slices_Index_int_b1 v) xs (fun i x hx => by rw [slices_Index_int_b1]; cases v == x <;> rfl)
  rw [h1]
  have e : (xs.any fun x => v == x) = xs.contains v := by
    rw [List.contains_eq_any_beq]
  cases j with
  | nx u => simp only at h2; rw [← e, h2]; rfl
  | out t => simp only at h2; rw [← e, h2.2]; simp [h2.1]
theorem compact_id (ls : List Int) (hl : ls.length ≤ 1000) (h : ∀ i a b, ls[i]? = some a → ls[i + 1]? = some b → b ≠ a) : slices_Compact_int ls = some ls := by
  unfold slices_Compact_int
  by_cases h2 : ls.length < 2
  · rw [if_pos (decide_eq_true (by omega))]
  · rw [if_neg (by simp; omega), cntF_of (s := 1) (by omega) (by omega), Option.bind_some]
    have := count_to (b := slices_Compact_int_b1 ls) (fun _ => ()) ((ls.length : Int) - (1 : Nat)).toNat 1 (by
      intro i h1 h3
      obtain ⟨n, rfl⟩ : ∃ n, i = n + 1 := ⟨i - 1, by omega⟩
      have hn : n + 1 < ls.length := by omega
      have e1 : ls[n]? = some ls[n] := List.getElem?_eq_getElem (by omega)
      have e2 : ls[n + 1]? = some ls[n + 1] := List.getElem?_eq_getElem hn
      have hne := h n _ _ e1 e2
      have e3 : (ls[n + 1] == ls[n]) = false := by rw [beq_eq_false_iff_ne]; exact hne
      rw [slices_Compact_int_b1, idx_nat, e2, Option.bind_some, i64_id (by omega) (by omega), show ((n + 1 : Nat) : Int) - 1 = (n : Int) by omega, idx_nat, e1, Option.bind_some, e3]
      rfl)
    rw [this]
    rfl
def strictA (xs : List Int) : Prop := xs.Pairwise fun a b => absI a < absI b
theorem filter_split (n : Int) : ∀ (xs : List Int), strictA xs → xs.filter (fun l => decide (absI l ≤ n + 1)) = xs.filter (fun l => decide (absI l ≤ n)) ++ xs.filter (fun l => decide (absI l = n + 1))
  | [], _ => rfl
  | x :: xs, h => by
    unfold strictA at h
    rw [List.pairwise_cons] at h
    have ih := filter_split n xs h.2
    have tl : ∀ m : Int, m < absI x → xs.filter (fun l => decide (absI l ≤ m)) = [] := fun m hm => by
      rw [List.filter_eq_nil_iff]
      intro y hy
      have := h.1 y hy
      simp; omega
    have cp : ∀ (p : Int → Bool), p x = true → (x :: xs).filter p = x :: xs.filter p := fun p hp => by rw [List.filter_cons, if_pos hp]
    have cn : ∀ (p : Int → Bool), p x = false → (x :: xs).filter p = xs.filter p := fun p hp => by rw [List.filter_cons, hp]; rfl
    by_cases h1 : absI x ≤ n
    · rw [cp (fun l => decide (absI l ≤ n + 1)) (decide_eq_true (by omega)), cp (fun l => decide (absI l ≤ n)) (decide_eq_true h1), cn (fun l => decide (absI l = n + 1)) (decide_eq_false (by omega)), ih, List.cons_append]
    · rw [cn (fun l => decide (absI l ≤ n)) (decide_eq_false h1)]
      rw [tl n (by omega), List.nil_append] at ih ⊢
      by_cases h2 : absI x = n + 1
      · rw [cp (fun l => decide (absI l ≤ n + 1)) (decide_eq_true (by omega)), cp (fun l => decide (absI l = n + 1)) (decide_eq_true h2), ih]
      · rw [cn (fun l => decide (absI l ≤ n + 1)) (decide_eq_false (by omega)), cn (fun l => decide (absI l = n + 1)) (decide_eq_false h2), ih]
theorem filter_one (v : Int) (hv : 0 < v) : ∀ (xs : List Int), strictA xs → (∀ x ∈ xs, lit12 x) → xs.filter (fun l => decide (absI l = v)) = (if seenAt xs v ≠ 0 then [seenAt xs v] else [])
  | [], _, _ => by simp [seenAt]
  | x :: xs, h, hl => by
    unfold strictA at h
    rw [List.pairwise_cons] at h
    have hx := hl x (by simp)
    obtain ⟨x0, _, _⟩ := hx
    rw [List.filter_cons]
    by_cases h1 : absI x = v
    · have e1 : xs.filter (fun l => decide (absI l = v)) = [] := by
        rw [List.filter_eq_nil_iff]
        intro y hy
        have := h.1 y hy
        simp; omega
      have hn : ∀ y ∈ xs, absI y ≠ v := fun y hy => by have := h.1 y hy; omega
      have hs : seenAt (x :: xs) v = x := by
        unfold seenAt
        unfold absI at h1
        simp only [List.contains_eq_mem, List.mem_cons, decide_eq_true_eq]
        by_cases hp : x > 0
        · have : v = x := by omega
          rw [if_pos (.inl this), this]
        · have e : v = -x := by omega
          have n1 : ¬ (v = x ∨ v ∈ xs) := by
            rintro (h | h)
            · omega
            · have := hn v h; unfold absI at this; omega
          rw [if_neg n1, if_pos (.inl (by omega))]
          omega
      rw [if_pos (decide_eq_true h1), e1, hs, if_pos x0]
    · have hs : seenAt (x :: xs) v = seenAt xs v := by
        unfold seenAt
        unfold absI at h1
        simp only [List.contains_eq_mem, List.mem_cons, decide_eq_true_eq]
        have n1 : (v = x ∨ v ∈ xs) ↔ v ∈ xs := ⟨fun h => h.elim (fun h => by exfalso; omega) id, .inr⟩
        have n2 : (-v = x ∨ -v ∈ xs) ↔ -v ∈ xs := ⟨fun h => h.elim (fun h => by exfalso; omega) id, .inr⟩
        simp only [n1, n2]
      rw [if_neg (by simpa using h1), hs]
      exact filter_one v hv xs h.2 fun y hy => hl y (by simp [hy])
theorem clT_filter (xs : List Int) (h : strictA xs) (hl : ∀ x ∈ xs, lit12 x) : ∀ n : Nat, clT xs n = (xs.filter fun l => decide (absI l ≤ (n : Int))).map fun l => (⟨1, l⟩ : Term)
  | 0 => by
    have : xs.filter (fun l => decide (absI l ≤ ((0 : Nat) : Int))) = [] := by
      rw [List.filter_eq_nil_iff]
      intro y hy
      have := (hl y hy).1
      unfold absI
      simp; omega
    rw [clT, this]; rfl
  | n + 1 => by
    rw [clT, clT_filter xs h hl n, show ((n + 1 : Nat) : Int) = (n : Int) + 1 by omega, filter_split (n : Int) xs h, List.map_append, filter_one ((n : Int) + 1) (by omega) xs h hl]
    congr 1
    split <;> rfl
theorem clT_sorted (xs : List Int) (h : strictA xs) (hl : ∀ x ∈ xs, lit12 x) : clT xs 12 = xs.map fun l => (⟨1, l⟩ : Term) := by
  rw [clT_filter xs h hl]
  congr 1
  rw [List.filter_eq_self]
  intro x hx
  obtain ⟨_, h1, h2⟩ := hl x hx
  unfold absI
  simp; omega
theorem seenAt_perm {xs ys : List Int} (h : ∀ x, x ∈ xs ↔ x ∈ ys) (v : Int) : seenAt xs v = seenAt ys v := by
  unfold seenAt
  simp only [List.contains_eq_mem, h]
theorem clT_perm {xs ys : List Int} (h : ∀ x, x ∈ xs ↔ x ∈ ys) : ∀ n, clT xs n = clT ys n
  | 0 => rfl
  | n + 1 => by rw [clT, clT, clT_perm h n, seenAt_perm h]
theorem nodup_at {α β : Type} (f : α → β) : ∀ (ls : List α) (i j : Nat) (a b : α), (ls.map f).Nodup → i < j → ls[i]? = some a → ls[j]? = some b → f a ≠ f b
  | x :: xs, 0, j + 1, a, b, h, _, ha, hb => by
    rw [List.map_cons, List.nodup_cons] at h
    simp only [List.getElem?_cons_zero, Option.some.injEq, List.getElem?_cons_succ] at ha hb
    subst ha
    intro e
    exact h.1 (by rw [e]; exact List.mem_map_of_mem (List.mem_of_getElem? hb))
  | x :: xs, i + 1, j + 1, a, b, h, hij, ha, hb => by
    rw [List.map_cons, List.nodup_cons] at h
    simp only [List.getElem?_cons_succ] at ha hb
    exact nodup_at f xs i j a b h.2 (by omega) ha hb
def distinctA (ls : List Int) : Prop := (ls.map absI).Nodup
theorem strict_of {xs : List Int} (h : sortedA xs) (hd : distinctA xs) : strictA xs := by
  unfold sortedA strictA distinctA at *
  induction xs with
  | nil => exact List.Pairwise.nil
  | cons x xs ih =>
    rw [List.pairwise_cons] at *
    rw [List.map_cons, List.nodup_cons] at hd
    refine ⟨fun y hy => ?_, ih h.2 hd.2⟩
    have h1 := h.1 y hy
    unfold leA at h1
    have h2 : absI x ≠ absI y := fun e => hd.1 (by rw [e]; exact List.mem_map_of_mem hy)
    omega
theorem distinct_ok {ls : List Int} (hl : ∀ l ∈ ls, lit12 l) (hd : distinctA ls) : clOk ls = true := by
  rw [clOk_iff]
  intro l h
  refine ⟨hl l h, fun hn => ?_⟩
  unfold distinctA at hd
  have hne : -l ≠ l := by have := (hl l h).1; omega
  obtain ⟨i, hi⟩ := List.getElem?_of_mem h
  obtain ⟨j, hj⟩ := List.getElem?_of_mem hn
  have hij : i ≠ j := by intro e; subst e; rw [hi] at hj; injection hj with hj; exact hne hj.symm
  have hil := (List.getElem?_eq_some_iff.1 hi).1
  have hjl := (List.getElem?_eq_some_iff.1 hj).1
  rcases Nat.lt_or_ge i j with hlt | hge
  · exact nodup_at absI ls i j l (-l) hd hlt hi hj (absI_neg l).symm
  · exact nodup_at absI ls j i (-l) l hd (by omega) hj hi (absI_neg l)
theorem i_clause (fu : Nat) (hf : FU ≤ fu) (ls : List Int) (hl : ∀ l ∈ ls, lit12 l) (hd : distinctA ls) (h12 : ls.length ≤ 12) : i_ClauseOf fu ls = some (clC ls, true) := by
  have hok := distinct_ok hl hd
  unfold i_ClauseOf
  rw [if_neg (by simp; omega), range_all (fun l => litOk l && !ls.contains (-l)) (zeroC', false) ls fun i l hli => by
    have hm := List.mem_of_getElem? hli
    have hlo := litOk_iff.2 (hl l hm)
    have h1 : i_isLiteral l = some true := by
      unfold i_isLiteral i_within
      unfold litOk at hlo
      rw [Bool.and_eq_true] at hlo
      rw [hlo.1]
      simp [hlo.2]
    have hl' := hl l hm
    rw [i_ClauseOf_b1, h1, i_containsI, i64_id (by have := hl'.2.2; omega) (by have := hl'.2.1; omega), hlo]
    cases ls.contains (-l) <;> rfl, Option.bind_some]
  have hall : (ls.all fun l => litOk l && !ls.contains (-l)) = true := hok
  rw [hall]
  simp only [if_true]
  rw [i_clone_int ls (by omega), Option.bind_some]
  obtain ⟨r, h1, h2, h3⟩ := sort_all fu hf ls hl h12
  have hdr : distinctA r := by
    unfold distinctA at *
    exact (h2.map absI).nodup_iff.2 hd
  have hrl : ∀ x ∈ r, lit12 x := fun x hx => hl x (h2.mem_iff.1 hx)
  have hst := strict_of h3 hdr
  have hlen := h2.length_eq
  rw [h1, Option.bind_some, compact_id r (by omega) (by
    intro i a b ha hb e
    subst e
    have hil := (List.getElem?_eq_some_iff.1 ha).1
    have hjl := (List.getElem?_eq_some_iff.1 hb).1
    unfold distinctA at hdr
    exact nodup_at absI r i (i + 1) b b hdr (by omega) ha hb rfl), Option.bind_some]
  have := range_map (b := i_ClauseOf_b2) (fun l => (⟨1, l⟩ : Term)) r fun i x out hx hlo => by
    have hi := (List.getElem?_eq_some_iff.1 hx).1
    rw [i_ClauseOf_b2, app_le (by simp; omega)]
    rfl
  rw [this, Option.bind_some, ← clT_sorted r hst hrl, clT_perm (fun x => h2.mem_iff)]
  rfl
end Go.L
namespace Go.L
open Go Go.E
set_option linter.unusedVariables false
set_option linter.unusedSimpArgs false
set_option maxRecDepth 100000
structure Dec (d : List Int) : Prop where
  lit : ∀ l ∈ d, lit12 l
  dis : distinctA d
  few : d.length + zer (asgL zeroP d) ≤ 12
theorem Dec.nil : Dec [] := ⟨by simp, by simp [distinctA], by decide⟩
end Go.L
namespace Go.L
open Go Go.E
set_option linter.unusedVariables false
set_option linter.unusedSimpArgs false
set_option maxRecDepth 100000
theorem getD_at {α : Type} {xs : List α} {k : Nat} (z : α) (h : k < xs.length) : xs.getD k z = xs[k] := by
  rw [List.getD_eq_getElem?_getD, List.getElem?_eq_getElem h]; rfl
end Go.L
namespace Go.L
open Go Go.E
set_option linter.unusedVariables false
set_option linter.unusedSimpArgs false
set_option maxRecDepth 100000
theorem clC_len (ls : List Int) : (clC ls).terms.length ≤ 12 := clT_len ls 12
end Go.L
namespace Go.L
open Go Go.E
set_option linter.unusedVariables false
set_option linter.unusedSimpArgs false
set_option maxRecDepth 100000
end Go.L
namespace Go.L
open Go Go.E
set_option linter.unusedVariables false
set_option linter.unusedSimpArgs false
set_option maxRecDepth 100000
end Go.L
namespace Go.L
open Go Go.E
set_option linter.unusedVariables false
set_option linter.unusedSimpArgs false
set_option maxRecDepth 100000
end Go.L
namespace Go.L
open Go Go.E
set_option linter.unusedVariables false
set_option linter.unusedSimpArgs false
set_option maxRecDepth 100000
end Go.L
namespace Go.L
open Go Go.E
set_option linter.unusedVariables false
set_option linter.unusedSimpArgs false
set_option maxRecDepth 100000
def FV : Nat := 2000000
def chain {α : Type} (P : α → Int → Int → Prop) : List α → Int → Int → Prop
  | [], k, k' => k = k'
  | y :: ys, k, k' => ∃ k1, P y k k1 ∧ chain P ys k1 k'
theorem chain_range {α τ : Type} {P : α → Int → Int → Prop} {b : Nat → α → Int → Option (Lo Int τ)} (hb : ∀ i y k k', P y k k' → b i y k = some (.cont k')) :
    ∀ (ys : List α) (i : Nat) (k k' : Int), chain P ys k k' → rangeL b ys i k = some (.nx k')
  | [], i, k, k', h => by obtain rfl := h; rfl
  | y :: ys, i, k, k', ⟨k1, h1, h2⟩ => by show (b i y k).bind _ = _; rw [hb i y k k1 h1]; exact chain_range hb ys (i + 1) k1 k' h2
theorem drop_set_cons {α : Type} {a : List α} {i : Nat} {y : α} (h : a[i]? = some y) : a.drop i = y :: a.drop (i + 1) := by
  obtain ⟨hi, rfl⟩ := List.getElem?_eq_some_iff.1 h
  rw [List.drop_eq_getElem_cons hi]
theorem mark_loop {α τ : Type} {b : (List α × Int × Int) → Option (Lo (List α × Int × Int) τ)} (P : α → Int → Int → Prop) (c K : Int) (hc : 0 ≤ c) (xs : List α) (hlen : xs.length ≤ 1048576)
    (h : ∀ (a : List α) (k : Int) (i : Nat) (x : α), a[i]? = some x → x ∈ xs → 0 ≤ k → k ≤ K → ∃ y k', b (a, k, i) = some (.cont (a.set i y, k', i64 ((i : Int) + 1))) ∧ P y k k' ∧ k ≤ k' ∧ k' ≤ k + c)
    (hb : ∀ (a : List α) (k : Int) (i : Nat), a.length ≤ i → b (a, k, i) = some (.brk (a, k, i))) :
    ∀ (n : Nat) (i : Nat) (a : List α) (k : Int) (fu : Nat), xs.length = i + n → a.length = xs.length → (∀ j, i ≤ j → a[j]? = xs[j]?) → n < fu → 0 ≤ k → k + n * c ≤ K →
      ∃ a' k' j, whileL b fu (a, k, i) = some (.nx (a', k', j)) ∧ a'.length = xs.length ∧ (∀ j, j < i → a'[j]? = a[j]?) ∧ chain P (a'.drop i) k k' ∧ k ≤ k' ∧ k' ≤ k + n * c
  | 0, i, a, k, fu, hn, ha, hj, hf, h0, hK => by
    obtain ⟨f, rfl⟩ : ∃ f, fu = f + 1 := ⟨fu - 1, by omega⟩
    refine ⟨a, k, i, ?_, ha, fun _ _ => rfl, ?_, by omega, by simp⟩
    · show (b (a, k, (i : Int))).bind _ = _
      rw [hb a k i (by omega)]; rfl
    · rw [List.drop_of_length_le (by omega)]; rfl
  | n + 1, i, a, k, fu, hn, ha, hj, hf, h0, hK => by
    obtain ⟨f, rfl⟩ : ∃ f, fu = f + 1 := ⟨fu - 1, by omega⟩
    have hi : i < a.length := by omega
    have hx : a[i]? = some a[i] := List.getElem?_eq_getElem hi
    have hm : a[i] ∈ xs := by
      have := hj i (Nat.le_refl _)
      rw [hx] at this
      exact List.mem_of_getElem? this.symm
    have hnc : ((n + 1 : Nat) : Int) * c = n * c + c := by rw [Int.natCast_add, Int.add_mul]; simp
    have hpos : 0 ≤ (n : Int) * c := Int.mul_nonneg (by omega) hc
    obtain ⟨y, k1, e, hP, h1, h2⟩ := h a k i a[i] hx hm h0 (by omega)
    obtain ⟨a', k', j', e', hl', hs', hch, h3, h4⟩ := mark_loop P c K hc xs hlen h hb n (i + 1) (a.set i y) k1 f (by omega) (by rw [List.length_set]; exact ha)
      (fun j hij => by rw [List.getElem?_set_ne (by omega)]; exact hj j (by omega)) (by omega) (by omega) (by omega)
    refine ⟨a', k', j', ?_, hl', ?_, ?_, by omega, by omega⟩
    · show (b (a, k, (i : Int))).bind _ = _
      rw [e]
      show whileL b f (a.set i y, k1, i64 ((i : Int) + 1)) = _
      rw [i64_id (by omega) (by omega)]
      exact e'
    · intro j hji
      rw [hs' j (by omega), List.getElem?_set_ne (by omega)]
    · have hy : a'[i]? = some y := by rw [hs' i (by omega), List.getElem?_set_self (by omega)]
      rw [drop_set_cons hy]
      exact ⟨k1, hP, hch⟩
theorem mark_all {α τ : Type} {b : (List α × Int × Int) → Option (Lo (List α × Int × Int) τ)} (P : α → Int → Int → Prop) (c K : Int) (hc : 0 ≤ c) (xs : List α) (hlen : xs.length ≤ 1048576)
    (h : ∀ (a : List α) (k : Int) (i : Nat) (x : α), a[i]? = some x → x ∈ xs → 0 ≤ k → k ≤ K → ∃ y k', b (a, k, i) = some (.cont (a.set i y, k', i64 ((i : Int) + 1))) ∧ P y k k' ∧ k ≤ k' ∧ k' ≤ k + c)
    (hb : ∀ (a : List α) (k : Int) (i : Nat), a.length ≤ i → b (a, k, i) = some (.brk (a, k, i))) (k : Int) (fu : Nat) (hf : FV ≤ fu) (h0 : 0 ≤ k) (hK : k + 1048576 * c ≤ K) :
    ∃ a' k' j, whileL b fu (xs, k, 0) = some (.nx (a', k', j)) ∧ a'.length = xs.length ∧ chain P a' k k' ∧ k ≤ k' ∧ k' ≤ k + 1048576 * c := by
  have hm : (xs.length : Int) * c ≤ 1048576 * c := Int.mul_le_mul_of_nonneg_right (by omega) hc
  obtain ⟨a', k', j, e, hl, _, hch, h1, h2⟩ := mark_loop P c K hc xs hlen h hb xs.length 0 xs k fu (by omega) rfl (fun _ _ => rfl) (by unfold FV at hf; omega) h0 (by omega)
  exact ⟨a', k', j, e, hl, hch, h1, by omega⟩
theorem mk_lt {α : Type} {a : List α} {i : Nat} {x : α} (h : a[i]? = some x) : decide ((i : Int) < (a.length : Int)) = true := by
  have := (List.getElem?_eq_some_iff.1 h).1
  simpa using this
theorem mk_ge {α : Type} {a : List α} {i : Nat} (h : a.length ≤ i) : decide ((i : Int) < (a.length : Int)) = false := by simpa using h
theorem idx_set_self {α : Type} {a : List α} {i : Nat} {x y : α} (hx : a[i]? = some x) : idx (a.set i y) (i : Int) = some y := by
  rw [idx_nat, List.getElem?_set_self (List.getElem?_eq_some_iff.1 hx).1]
end Go.L
namespace Go.L
open Go Go.E
set_option linter.unusedVariables false
set_option linter.unusedSimpArgs false
set_option maxRecDepth 100000
def smC (c : Con) : Prop := c.terms.length ≤ 1048576
def smCs (xs : List Con) : Prop := xs.length ≤ 1048576 ∧ ∀ c ∈ xs, smC c
theorem eqTerm (t : Term) : l_eqTerm t t = some true := by
  unfold l_eqTerm
  simp
theorem eqTerms (a : List Term) : l_eqTermS a a = some true :=
  same_list (one := l_eqTerm) rfl rfl (fun i x hx => by show (idx a (i : Int)).bind _ = _; rw [idx_self hx]; rfl) fun x _ => eqTerm x
theorem eqCon (a : Con) : l_eqConstraint a a = some true := by
  unfold l_eqConstraint
  simp [eqTerms]
theorem eqCons (a : List Con) : l_eqConstraintS a a = some true :=
  same_list (one := l_eqConstraint) rfl rfl (fun i x hx => by show (idx a (i : Int)).bind _ = _; rw [idx_self hx]; rfl) fun x _ => eqCon x
theorem mkTerms (xs : List Term) (hl : xs.length ≤ 1048576) (fu : Nat) (hf : FV ≤ fu) (k : Int) (h0 : 0 ≤ k) (hK : k + 4194304 ≤ 9000000000000000000) :
    ∃ k' a', l_markTermS fu xs k = some (k', a') ∧ l_heldTermS a' k = some k' ∧ k ≤ k' ∧ k' ≤ k + 2097152 := by
  obtain ⟨a', k', j, e, _, hch, h1, h2⟩ := mark_all (b := l_markTermS_b1) (fun y k k' => y = (⟨k, k + 1⟩ : Term) ∧ k' = k + 2 ∧ 0 ≤ k ∧ k ≤ 9000000000000000000) 2 9000000000000000000 (by omega) xs hl
    (fun a k i x hx _ h0 h1 => ⟨⟨k, k + 1⟩, k + 2, by
      have hi := (List.getElem?_eq_some_iff.1 hx).1
      show (if decide ((i : Int) < (a.length : Int)) then _ else _) = _
      rw [mk_lt hx, if_pos rfl, idx_nat, hx, Option.bind_some]
      simp only [Int.toNat_natCast, idx_set_self hx, Option.bind_some, List.set_set, i64_id (n := k + 1) (by omega) (by omega)]
      rw [i64_id (n := k + 1 + 1) (by omega) (by omega)]
      congr 4
      omega, ⟨rfl, rfl, h0, h1⟩, by omega, by omega⟩)
    (fun a k i h => by show (if decide ((i : Int) < (a.length : Int)) then _ else _) = _; rw [mk_ge h]; rfl) k fu hf h0 (by omega)
  refine ⟨k', a', ?_, ?_, h1, by omega⟩
  · unfold l_markTermS; rw [e]; rfl
  · unfold l_heldTermS
    rw [chain_range (b := l_heldTermS_b1) (P := fun y k k' => y = (⟨k, k + 1⟩ : Term) ∧ k' = k + 2 ∧ 0 ≤ k ∧ k ≤ 9000000000000000000) ?_ a' 0 k k' hch]
    · rfl
    · rintro i y k k' ⟨rfl, rfl, q0, q1⟩
      rw [l_heldTermS_b1]
      simp only [bne_self_eq_false, Bool.false_eq_true, if_false, i64_id (n := k + 1) (by omega) (by omega)]
      rw [i64_id (by omega) (by omega)]
      congr 2
      omega
def PC (y : Con) (k k' : Int) : Prop := l_heldTermS y.terms k = some (k' - 1) ∧ y.bound = k' - 1 ∧ 0 ≤ k' - 1 ∧ k' ≤ 9000000000000000000
theorem mkCons (xs : List Con) (h : smCs xs) (fu : Nat) (hf : FV ≤ fu) (k : Int) (h0 : 0 ≤ k) (hK : k ≤ 1000000000000000000) :
    ∃ k' a', l_markConstraintS fu xs k = some (k', a') ∧ l_heldConstraintS a' k = some k' ∧ k ≤ k' ∧ k' ≤ k + 2199024304128 := by
  obtain ⟨a', k', j, e, _, hch, h1, h2⟩ := mark_all (b := l_markConstraintS_b1 fu) PC 2097153 8000000000000000000 (by omega) xs h.1
    (fun a k i x hx hm h0 h1 => by
      obtain ⟨k1, y1, e1, g1, p1, q1⟩ := mkTerms x.terms (h.2 x hm) fu hf k h0 (by omega)
      have hi := (List.getElem?_eq_some_iff.1 hx).1
      refine ⟨⟨y1, k1⟩, k1 + 1, ?_, ⟨by rw [g1]; congr 1; omega, by simp only; omega, by omega, by omega⟩, by omega, by omega⟩
      show (if decide ((i : Int) < (a.length : Int)) then _ else _) = _
      rw [mk_lt hx, if_pos rfl, idx_nat, hx, Option.bind_some, e1, Option.bind_some]
      simp only [Int.toNat_natCast, idx_set_self hx, Option.bind_some, List.set_set, i64_id (n := k1 + 1) (by omega) (by omega)])
    (fun a k i h => by show (if decide ((i : Int) < (a.length : Int)) then _ else _) = _; rw [mk_ge h]; rfl) k fu hf h0 (by omega)
  refine ⟨k', a', ?_, ?_, h1, by omega⟩
  · unfold l_markConstraintS; rw [e]; rfl
  · unfold l_heldConstraintS
    rw [chain_range (b := l_heldConstraintS_b1) (P := PC) ?_ a' 0 k k' hch]
    · rfl
    · rintro i y k k' ⟨q1, q2, q3, q4⟩
      rw [l_heldConstraintS_b1, q1, Option.bind_some, if_neg (by simp; omega), q2, if_neg (by simp), i64_id (by omega) (by omega)]
      congr 2
      omega
end Go.L
namespace Go.L
open Go Go.E
set_option linter.unusedVariables false
set_option linter.unusedSimpArgs false
set_option maxRecDepth 100000
theorem distinct_nodup {xs : List Int} : distinct xs = true ↔ xs.Nodup := by
  unfold distinct List.Nodup
  rw [allFrom_iff, List.pairwise_iff_getElem]
  constructor
  · intro h i j hi hj hij e
    have := h j xs[j] (List.getElem?_eq_getElem hj)
    simp only [Bool.not_eq_true', List.contains_eq_mem, decide_eq_false_iff_not] at this
    exact this (by rw [← e, List.mem_take_iff_getElem]; exact ⟨i, by omega, rfl⟩)
  · intro h j x hx
    simp only [Bool.not_eq_true', List.contains_eq_mem, decide_eq_false_iff_not]
    intro hm
    obtain ⟨hj, rfl⟩ := List.getElem?_eq_some_iff.1 hx
    obtain ⟨i, hi, e⟩ := List.mem_take_iff_getElem.1 hm
    exact h i j (by omega) hj (by omega) e
theorem filter_le_one {xs : List Int} (h : xs.Nodup) (v : Int) : (xs.filter (· == v)).length ≤ 1 := by
  induction xs with
  | nil => simp
  | cons x xs ih =>
    rw [List.nodup_cons] at h
    rw [List.filter_cons]
    split
    · rename_i e
      have e : x = v := by simpa using e
      subst e
      have : xs.filter (· == x) = [] := by
        rw [List.filter_eq_nil_iff]
        intro y hy
        simp
        intro e
        subst e
        exact h.1 hy
      rw [this]; simp
    · exact ih h.2
theorem nodup_len : ∀ (n : Nat) (xs : List Int), xs.Nodup → (∀ x ∈ xs, 0 ≤ x ∧ x < (n : Int)) → xs.length ≤ n
  | 0, xs, _, h => by
    cases xs with
    | nil => simp
    | cons x xs => have := h x (by simp); omega
  | n + 1, xs, hn, h => by
    have h1 := filter_le_one hn (n : Int)
    have h2 := nodup_len n (xs.filter fun x => !(x == (n : Int))) (List.Pairwise.filter _ hn) (by
      intro x hx
      rw [List.mem_filter] at hx
      have := h x hx.1
      have h3 : x ≠ (n : Int) := by simpa using hx.2
      omega)
    have h3 : xs.length = (xs.filter (· == (n : Int))).length + (xs.filter fun x => !(x == (n : Int))).length := by
      have := List.length_eq_countP_add_countP (· == (n : Int)) (l := xs)
      rw [List.countP_eq_length_filter, List.countP_eq_length_filter] at this
      rw [this]
      congr 2
      apply List.filter_congr
      intro x _
      cases x == (n : Int) <;> simp
    omega
theorem okVars_len {n : Nat} {xs : List Int} (h : okVars n xs = true) : xs.length ≤ n := by
  obtain ⟨h1, h2⟩ := okVars_iff.1 h
  exact nodup_len n xs (distinct_nodup.1 h2) h1
def sizeAt (m : Model) (i : Nat) : Nat := (m.sizes.getD i 0).toNat
def varsC (m : Model) (i : Nat) : List Int := (List.range (sizeAt m i + 1)).map fun (v : Nat) => boolVar m i (v : Int)
theorem sizeAt_eq {m : Model} {i : Nat} {x : Int} (hx : m.sizes[i]? = some x) : sizeAt m i = x.toNat := by
  unfold sizeAt
  rw [List.getD_eq_getElem?_getD, hx]; rfl
theorem size_ok {m : Model} (hok : okModel m = true) {i : Nat} (hi : i < m.sizes.length) : m.sizes[i] = (sizeAt m i : Int) ∧ sizeAt m i ≤ 3 := by
  have := sizes_get (okModel_parts hok).2.2.1 hi
  rw [sizeAt_eq (List.getElem?_eq_getElem hi)]
  omega
theorem var_range {m : Model} (hok : okModel m = true) {i : Nat} (hi : i < m.sizes.length) {v : Nat} (hv : v ≤ sizeAt m i) : 1 ≤ boolVar m i v ∧ boolVar m i v ≤ 12 := by
  have := size_ok hok hi
  have h := boolVar_range hok hi (v := (v : Int)) ⟨by omega, by omega⟩
  omega
theorem varsC_pos {m : Model} (hok : okModel m = true) {i : Nat} (hi : i < m.sizes.length) : ∀ x ∈ varsC m i, 1 ≤ x ∧ x ≤ 12 := by
  intro x hx
  obtain ⟨v, hv, rfl⟩ := List.mem_map.1 hx
  rw [List.mem_range] at hv
  exact var_range hok hi (by omega)
theorem varsC_len (m : Model) (i : Nat) : (varsC m i).length = sizeAt m i + 1 := by simp [varsC]
theorem varsC_sorted (m : Model) (i : Nat) : (varsC m i).Pairwise (· < ·) := by
  unfold varsC
  rw [List.pairwise_map]
  refine List.Pairwise.imp ?_ List.pairwise_lt_range
  intro a b h
  unfold boolVar
  omega
theorem pos_abs {vs : List Int} (h : ∀ x ∈ vs, 1 ≤ x ∧ x ≤ 12) : vs.map absI = vs := by
  conv => rhs; rw [← List.map_id vs]
  apply List.map_congr_left
  intro x hx
  have := h x hx
  unfold absI
  simp; omega
theorem lt_nodup {vs : List Int} (h : vs.Pairwise (· < ·)) : vs.Nodup := h.imp fun hab e => by omega
theorem pos_lit {vs : List Int} (h : ∀ x ∈ vs, 1 ≤ x ∧ x ≤ 12) : ∀ x ∈ vs, lit12 x := fun x hx => by
  have := h x hx
  exact ⟨by omega, by omega, by omega⟩
theorem pos_dis {vs : List Int} (h : ∀ x ∈ vs, 1 ≤ x ∧ x ≤ 12) (hn : vs.Nodup) : distinctA vs := by
  unfold distinctA; rw [pos_abs h]; exact hn
def mostC (vs : List Int) : Con := ⟨vs.map fun x => ⟨1, -x⟩, (vs.length : Int) - 1⟩
theorem most_loop {τ : Type} {b : Nat → Int → List Term → Option (Lo (List Term) τ)} (hb : ∀ i x out, b i x out = (app out ([({ coef := 1, lit := i64 (-x) } : Term)])).bind fun y => some (.cont y)) {vs : List Int} (hv : ∀ x ∈ vs, 1 ≤ x ∧ x ≤ 12) (hl : vs.length ≤ 20) : rangeL b vs 0 [] = some (.nx (vs.map fun x => ⟨1, -x⟩)) :=
  range_map (fun x => (⟨1, -x⟩ : Term)) vs fun i x out hx ho => by
    have hi := (List.getElem?_eq_some_iff.1 hx).1
    have := hv x (List.mem_of_getElem? hx)
    rw [hb, app_le (by simp; omega), i64_id (by omega) (by omega)]; rfl
theorem s_most {vs : List Int} (hv : ∀ x ∈ vs, 1 ≤ x ∧ x ≤ 12) (hl : vs.length ≤ 20) : s_l7Most vs = some (mostC vs) := by
  unfold s_l7Most
  rw [most_loop (b := s_l7Most_b1) (fun _ _ _ => rfl) hv hl, Option.bind_some]
  show some (Con.mk _ (i64 _)) = _
  rw [i64_id (by omega) (by omega)]; rfl
theorem i_most {vs : List Int} (hv : ∀ x ∈ vs, 1 ≤ x ∧ x ≤ 12) (hl : vs.length ≤ 20) : i_atMostOne vs = some (mostC vs) := by
  unfold i_atMostOne
  rw [most_loop (b := i_atMostOne_b1) (fun _ _ _ => rfl) hv hl, Option.bind_some]
  show some (Con.mk _ (i64 _)) = _
  rw [i64_id (by omega) (by omega)]; rfl
def cellE (m : Model) (i : Nat) : List Con := [clC (varsC m i), mostC (varsC m i)]
theorem s_clauseD {ls : List Int} (hl : ∀ l ∈ ls, lit12 l) (hd : distinctA ls) (h40 : ls.length ≤ 40) : s_ClauseOf ls = some (clC ls, true) := by
  rw [s_clause]
  unfold clauseP
  rw [distinct_ok hl hd, decide_eq_true h40]; rfl
theorem s_cell {m : Model} (hok : okModel m = true) {i : Nat} {x : Int} (hx : m.sizes[i]? = some x) : s_l7Cell m (i : Int) = some (cellE m i) := by
  obtain ⟨h1, h5, ha, _⟩ := okModel_parts hok
  obtain ⟨hi, hxe⟩ := List.getElem?_eq_some_iff.1 hx
  have hs := size_ok hok hi
  have hp := varsC_pos hok hi
  have hlen := varsC_len m i
  unfold s_l7Cell
  rw [idx_lt hi, Option.bind_some, hs.1]
  have hk : cntF 0 ((sizeAt m i : Int) + 1) = some (sizeAt m i + 1) := by rw [cntF_of (by omega) (by omega)]; congr 1
  rw [hk, Option.bind_some]
  have h := count_to (b := s_l7Cell_b1 m (i : Int)) (fun j => (List.range j).map fun (v : Nat) => boolVar m i (v : Int)) (sizeAt m i + 1) 0 (by
    intro j _ hj
    have hvar := s_var m i (j : Int) (by omega) h5 ha ⟨by omega, by omega⟩
    show (s_l7Var m (i : Int) (j : Int)).bind _ = _
    rw [hvar, Option.bind_some, app_le (by simp; omega), List.range_succ, List.map_append]
    rfl)
  rw [Nat.zero_add] at h
  rw [show countL (s_l7Cell_b1 m (i : Int)) (sizeAt m i + 1) 0 [] = _ from h, Option.bind_some]
  show (s_ClauseOf (varsC m i)).bind _ = _
  rw [s_clauseD (pos_lit hp) (pos_dis hp (lt_nodup (varsC_sorted m i))) (by omega), Option.bind_some]
  show (s_l7Most (varsC m i)).bind _ = _
  rw [s_most hp (by omega)]
  rfl
def cellsE (m : Model) (n : Nat) : List Con := (List.range n).flatMap (cellE m)
theorem cellsE_succ (m : Model) (n : Nat) : cellsE m (n + 1) = cellsE m n ++ cellE m n := by
  unfold cellsE
  rw [List.range_succ, List.flatMap_append, List.flatMap_singleton]
theorem cellsE_len (m : Model) : ∀ n, (cellsE m n).length = 2 * n
  | 0 => rfl
  | n + 1 => by rw [cellsE_succ, List.length_append, cellsE_len m n]; rfl
theorem s_cellsE {m : Model} (hok : okModel m = true) : rangeL (s_EncodeModel_b1 m) m.sizes 0 [] = some (.nx (cellsE m m.sizes.length)) := by
  have h5 := (okModel_parts hok).2.1
  exact range_to (b := s_EncodeModel_b1 m) (fun i => cellsE m i) m.sizes fun i x hx => by
    have hi := (List.getElem?_eq_some_iff.1 hx).1
    have := cellsE_len m i
    rw [s_EncodeModel_b1, s_cell hok hx, Option.bind_some, app_le (by simp [cellE]; omega), cellsE_succ]; rfl
theorem i_cellsE (fu : Nat) (hf : FU ≤ fu) {m : Model} (hok : okModel m = true) : rangeL (i_EncodeModel_b1 fu m) m.sizes 0 [] = some (.nx (cellsE m m.sizes.length)) := by
  have h5 := (okModel_parts hok).2.1
  exact range_to (b := i_EncodeModel_b1 fu m) (fun i => cellsE m i) m.sizes fun i x hx => by
    have hi := (List.getElem?_eq_some_iff.1 hx).1
    have := cellsE_len m i
    have hs := size_ok hok hi
    have hp := varsC_pos hok hi
    have hlen := varsC_len m i
    have e : (List.range (x.toNat + 1)).map (fun (v : Nat) => boolVar m i (v : Int)) = varsC m i := by unfold varsC; rw [sizeAt_eq hx]
    rw [i_EncodeModel_b1, i_varsOf hok hx, Option.bind_some, e, i_clause fu hf _ (pos_lit hp) (pos_dis hp (lt_nodup (varsC_sorted m i))) (by omega), Option.bind_some, i_most hp (by omega), Option.bind_some, app_le (by simp; omega), cellsE_succ]; rfl
def sortI (vs : List Int) : List Int := vs.mergeSort
theorem sortI_perm (vs : List Int) : (sortI vs).Perm vs := List.mergeSort_perm vs _
theorem sortI_sorted (vs : List Int) : (sortI vs).Pairwise (· ≤ ·) := by
  have := List.pairwise_mergeSort (le := fun (a b : Int) => decide (a ≤ b)) (fun a b c h1 h2 => by simp at *; omega) (fun a b => by simp; omega) vs
  exact this.imp fun h => by simpa using h
theorem sorted_uniq : ∀ {a b : List Int}, a.Perm b → a.Pairwise (· ≤ ·) → b.Pairwise (· ≤ ·) → a = b
  | [], b, h, _, _ => (List.nil_perm.1 h).symm
  | x :: a, [], h, _, _ => by simp at h
  | x :: a, y :: b, h, ha, hb => by
    rw [List.pairwise_cons] at ha hb
    have e : x = y := by
      have h1 : x ∈ y :: b := h.mem_iff.1 (by simp)
      have h2 : y ∈ x :: a := h.mem_iff.2 (by simp)
      rcases List.mem_cons.1 h1 with h1 | h1
      · exact h1
      · rcases List.mem_cons.1 h2 with h2 | h2
        · exact h2.symm
        · have := hb.1 x h1; have := ha.1 y h2; omega
    subst e
    rw [sorted_uniq (List.Perm.cons_inv h) ha.2 hb.2]
end Go.L
namespace Go.L
open Go Go.E
set_option linter.unusedVariables false
set_option linter.unusedSimpArgs false
set_option maxRecDepth 100000
theorem swap_loop {τ : Type} {b : List Int × Int → Option (Lo (List Int × Int) τ)}
    (h0 : ∀ d, b (d, 0) = some (.brk (d, 0)))
    (h1 : ∀ (pre : List Int) (y x : Int) (rest : List Int) (k : Nat), pre.length = k → k ≤ 100 → b (pre ++ y :: x :: rest, ((k + 1 : Nat) : Int)) = some (if decide (x < y) then .cont (pre ++ x :: y :: rest, (k : Int)) else .brk (pre ++ y :: x :: rest, ((k + 1 : Nat) : Int))))
    (x : Int) (rest : List Int) : ∀ (n : Nat) (pre mid : List Int) (k : Nat), pre.length = n → n < k → n ≤ 100 →
    ∃ p q s, p ++ q = pre ∧ whileL b k (pre ++ x :: (mid ++ rest), (n : Int)) = some (.nx (p ++ x :: (q ++ mid ++ rest), s)) ∧ (∀ y ∈ q, x < y) ∧ (∀ y, p.getLast? = some y → y ≤ x)
  | 0, pre, mid, k, hn, hk, h100 => by
    obtain ⟨k, rfl⟩ : ∃ k', k = k' + 1 := ⟨k - 1, by omega⟩
    have hp : pre = [] := List.length_eq_zero_iff.1 hn
    subst hp
    refine ⟨[], [], 0, rfl, ?_, by simp, by simp⟩
    show (b _).bind _ = _
    have := h0 ([] ++ x :: (mid ++ rest))
    rw [show (((0 : Nat) : Int)) = 0 from rfl, this]
    rfl
  | n + 1, pre, mid, k, hn, hk, h100 => by
    obtain ⟨k, rfl⟩ : ∃ k', k = k' + 1 := ⟨k - 1, by omega⟩
    obtain ⟨pre', y, rfl⟩ : ∃ p y, pre = p ++ [y] := ⟨pre.dropLast, pre.getLast (by intro h; subst h; simp at hn), (List.dropLast_concat_getLast _).symm⟩
    have hl : pre'.length = n := by simpa using hn
    have e := h1 pre' y x (mid ++ rest) n hl (by omega)
    rw [show pre' ++ [y] ++ x :: (mid ++ rest) = pre' ++ y :: x :: (mid ++ rest) by simp]
    by_cases hc : x < y
    · obtain ⟨p, q, s, e1, e2, e3, e4⟩ := swap_loop h0 h1 x rest n pre' (y :: mid) k hl (by omega) (by omega)
      refine ⟨p, q ++ [y], s, by rw [← e1]; simp, ?_, ?_, e4⟩
      · show (b _).bind _ = _
        rw [e, decide_eq_true hc, if_pos rfl]
        show whileL b k (pre' ++ x :: (y :: mid ++ rest), (n : Int)) = _
        rw [e2]
        simp
      · intro z hz
        rcases List.mem_append.1 hz with hz | hz
        · exact e3 z hz
        · rw [List.mem_singleton] at hz; subst hz; exact hc
    · refine ⟨pre' ++ [y], [], ((n + 1 : Nat) : Int), by simp, ?_, by simp, ?_⟩
      · show (b _).bind _ = _
        rw [e, decide_eq_false hc, if_neg (by simp)]
        show some (Jn.nx _) = _
        simp
      · intro z hz
        simp at hz
        subst hz
        omega
theorem ins_sortedI {p q : List Int} {x : Int} (h : (p ++ q).Pairwise (· ≤ ·)) (h1 : ∀ y ∈ q, x < y) (h2 : ∀ y, p.getLast? = some y → y ≤ x) : (p ++ x :: q).Pairwise (· ≤ ·) := by
  rw [List.pairwise_append] at h
  obtain ⟨hp, hq, hpq⟩ := h
  have hpx : ∀ y ∈ p, y ≤ x := by
    intro y hy
    cases hlast : p.getLast? with
    | none => rw [List.getLast?_eq_none_iff] at hlast; subst hlast; cases hy
    | some z =>
      have hz := h2 z hlast
      have : y ≤ z := by
        obtain ⟨p', rfl⟩ : ∃ p', p = p' ++ [z] := by
          rw [List.getLast?_eq_some_iff] at hlast
          exact hlast
        rw [List.pairwise_append] at hp
        rcases List.mem_append.1 hy with hy | hy
        · exact hp.2.2 y hy z (by simp)
        · rw [List.mem_singleton] at hy; subst hy; exact Int.le_refl _
      exact Int.le_trans this hz
  rw [List.pairwise_append]
  refine ⟨hp, ?_, ?_⟩
  · rw [List.pairwise_cons]
    exact ⟨fun y hy => Int.le_of_lt (h1 y hy), hq⟩
  · intro y hy z hz
    rcases List.mem_cons.1 hz with rfl | hz
    · exact hpx y hy
    · exact hpq y hy z hz
theorem outer_sort {τ : Type} {b2 : List Int × Int → Option (Lo (List Int × Int) τ)} {σ : Type} {b1 : List Int × Int → Option (Lo (List Int × Int) σ)} (fu : Nat) (hf : FU ≤ fu) (ls : List Int) (h12 : ls.length ≤ 100)
    (h0 : ∀ d, b2 (d, 0) = some (.brk (d, 0)))
    (h1 : ∀ (pre : List Int) (y x : Int) (rest : List Int) (k : Nat), pre.length = k → k ≤ 100 → b2 (pre ++ y :: x :: rest, ((k + 1 : Nat) : Int)) = some (if decide (x < y) then .cont (pre ++ x :: y :: rest, (k : Int)) else .brk (pre ++ y :: x :: rest, ((k + 1 : Nat) : Int))))
    (hout : ∀ d, d.length = ls.length → b1 (d, (ls.length : Int)) = some (.brk (d, (ls.length : Int))))
    (hin : ∀ (d : List Int) (i : Nat) (d' : List Int) (s : Int), d.length = ls.length → i < ls.length → whileL b2 fu (d, (i : Int)) = some (.nx (d', s)) → b1 (d, (i : Int)) = some (.cont (d', ((i + 1 : Nat) : Int)))) (i0 : Nat) (hi0 : i0 ≤ 1) (hi1 : i0 ≤ ls.length) :
    ∃ k, whileL b1 fu (ls, (i0 : Int)) = some (.nx (sortI ls, k)) := by
  have hF := hf
  unfold FU at hF
  obtain ⟨j, hj, hQ⟩ := while_inv (b := b1)
    (fun n (s : List Int × Int) => ∃ i : Nat, s.2 = (i : Int) ∧ i + n = ls.length ∧ ∃ P, s.1 = P ++ ls.drop i ∧ P.Perm (ls.take i) ∧ P.Pairwise (· ≤ ·))
    (fun j => ∃ k, j = .nx (sortI ls, k)) (fun n s hI => by
      obtain ⟨d, k⟩ := s
      obtain ⟨i, hk, hi, P, hd, hp, hs⟩ := hI
      simp only at hk hd
      subst hk hd
      have hpl : P.length = i := by rw [hp.length_eq]; simp; omega
      cases n with
      | zero =>
        have : i = ls.length := by omega
        subst this
        refine ⟨_, hout _ (by simp [hpl]), (ls.length : Int), ?_⟩
        rw [List.take_length] at hp
        simp only [List.drop_length, List.append_nil]
        rw [sorted_uniq (hp.trans (sortI_perm ls).symm) hs (sortI_sorted ls)]
      | succ n =>
        have hil : i < ls.length := by omega
        have hdr : ls.drop i = ls[i] :: ls.drop (i + 1) := List.drop_eq_getElem_cons hil
        obtain ⟨p, q, s, e1, e2, e3, e4⟩ := swap_loop h0 h1 ls[i] (ls.drop (i + 1)) i P [] fu hpl (by omega) (by omega)
        have hw : whileL b2 fu (P ++ ls.drop i, (i : Int)) = some (.nx (p ++ ls[i] :: (q ++ [] ++ ls.drop (i + 1)), s)) := by
          rw [hdr]; exact e2
        refine ⟨_, hin _ i _ s (by simp [hpl]; omega) hil hw, n, by omega, i + 1, rfl, by omega, p ++ ls[i] :: q, by simp, ?_, ?_⟩
        · rw [take_snoc1 (List.getElem?_eq_getElem hil)]
          have g1 : (p ++ ls[i] :: q).Perm (ls[i] :: (p ++ q)) := List.perm_middle
          rw [e1] at g1
          exact g1.trans ((hp.cons _).trans (List.perm_append_singleton _ _).symm)
        · rw [← e1] at hs
          exact ins_sortedI hs e3 e4)
    fu (ls.length - i0) (ls, (i0 : Int)) ⟨i0, rfl, by omega, ls.take i0, (List.take_append_drop i0 ls).symm, List.Perm.refl _, by
      have : (ls.take i0).length ≤ 1 := by simp; omega
      match h : ls.take i0, this with
      | [], _ => exact List.Pairwise.nil
      | [a], _ => simp⟩ (by omega)
  obtain ⟨k, rfl⟩ := hQ
  exact ⟨k, hj⟩
theorem two_at (pre : List Int) (y x : Int) (rest : List Int) (k : Nat) (hk : pre.length = k) : idx (pre ++ y :: x :: rest) ((k + 1 : Nat) : Int) = some x ∧ idx (pre ++ y :: x :: rest) (k : Int) = some y := by
  subst hk
  constructor
  · rw [idx_nat, List.getElem?_append_right (by omega), Nat.add_sub_cancel_left]; rfl
  · rw [idx_nat, List.getElem?_append_right (by omega), Nat.sub_self]; rfl
theorem two_set (pre : List Int) (y x u : Int) (rest : List Int) (k : Nat) (hk : pre.length = k) : (pre ++ y :: x :: rest).set (k + 1) u = pre ++ y :: u :: rest ∧ (pre ++ y :: x :: rest).set k u = pre ++ u :: x :: rest := by
  subst hk
  constructor
  · rw [List.set_append_right _ _ (by omega), Nat.add_sub_cancel_left]; rfl
  · rw [List.set_append_right _ _ (Nat.le_refl _), Nat.sub_self]; rfl
theorem s_sorted (fu : Nat) (hf : FU ≤ fu) (ls : List Int) (hl : ls.length ≤ 100) : s_l7Sorted fu ls = some (sortI ls) := by
  unfold s_l7Sorted
  rw [app_le (by simp; omega), Option.bind_some, List.nil_append]
  obtain ⟨k, h⟩ := outer_sort (b2 := s_l7Sorted_b2) (b1 := s_l7Sorted_b1 fu) fu hf ls hl
    (fun d => by rw [s_l7Sorted_b2]; rfl)
    (fun pre y x rest k hk h100 => by
      obtain ⟨t1, t2⟩ := two_at pre y x rest k hk
      have e5 : i64 (((k + 1 : Nat) : Int) - 1) = (k : Int) := by rw [i64_id (by omega) (by omega)]; omega
      rw [s_l7Sorted_b2, if_pos (decide_eq_true (by omega)), t1, e5, t2, Option.bind_some, Option.bind_some, Option.bind_some]
      by_cases h : x < y
      · rw [decide_eq_true h, if_pos rfl, if_pos rfl]
        have s1 := (two_set pre y x y rest k hk).1
        have s2 := (two_set pre y y x rest k hk).2
        have t3 := (two_at pre y y rest k hk).2
        show ((some x).bind fun x56 => _) = _
        simp only [Option.bind_some, Int.toNat_natCast, s1, t3, s2]
      · rw [decide_eq_false h]; rfl)
    (fun d hd => by rw [s_l7Sorted_b1, if_neg (by simp; omega)])
    (fun d i d' s hd hi hw => by
      rw [s_l7Sorted_b1, if_pos (decide_eq_true (by omega)), hw, Option.bind_some]
      simp only
      rw [i64_id (by omega) (by omega)]; rfl) 0 (by omega) (by omega)
  rw [show (0 : Int) = ((0 : Nat) : Int) from rfl, h]
  rfl
theorem i_sorted (fu : Nat) (hf : FU ≤ fu) (ls : List Int) (h1 : 1 ≤ ls.length) (hl : ls.length ≤ 12) : slices_Sort_int fu ls = some (sortI ls) := by
  unfold slices_Sort_int
  have hb : bits_Len (IntKind.u64.wrap (ls.length : Int)) = some (Go.Lib.bitLen (IntKind.u64.wrap (ls.length : Int)).toNat : Int) := by
    unfold bits_Len
    have : IntKind.u64.wrap (ls.length : Int) = (ls.length : Int) := by rw [IntKind.wrap_u64]; omega
    rw [this, if_pos (by omega)]
  rw [hb, Option.bind_some]
  obtain ⟨k, h⟩ := outer_sort (b2 := slices_insertionSortOrdered_int_b2 0) (b1 := slices_insertionSortOrdered_int_b1 fu 0 (ls.length : Int)) fu hf ls (by omega)
    (fun d => by rw [slices_insertionSortOrdered_int_b2]; rfl)
    (fun pre y x rest k hk h100 => by
      obtain ⟨t1, t2⟩ := two_at pre y x rest k hk
      have e5 : i64 (((k + 1 : Nat) : Int) - 1) = (k : Int) := by rw [i64_id (by omega) (by omega)]; omega
      have hless : cmp_Less_int x y = some (decide (x < y)) := by unfold cmp_Less_int cmp_isNaN_int; simp
      rw [slices_insertionSortOrdered_int_b2, if_pos (decide_eq_true (by omega)), t1, e5, t2, Option.bind_some, Option.bind_some, hless, Option.bind_some, Option.bind_some]
      by_cases h : x < y
      · rw [decide_eq_true h, if_pos rfl, if_pos rfl]
        have s1 := (two_set pre y x y rest k hk).1
        have s2 := (two_set pre y y x rest k hk).2
        have t3 := (two_at pre y y rest k hk).2
        show ((some y).bind fun x52 => _) = _
        simp only [Option.bind_some, Int.toNat_natCast, s1, t3, s2]
      · rw [decide_eq_false h]; rfl)
    (fun d hd => by rw [slices_insertionSortOrdered_int_b1, if_neg (by simp)])
    (fun d i d' s hd hi hw => by
      rw [slices_insertionSortOrdered_int_b1, if_pos (decide_eq_true (by omega)), hw, Option.bind_some]
      simp only
      rw [i64_id (by omega) (by omega)]; rfl) 1 (by omega) (by omega)
  unfold slices_pdqsortOrdered_int
  unfold FU at hf
  obtain ⟨n, rfl⟩ : ∃ n, fu = n + 1 := ⟨fu - 1, by omega⟩
  have : whileL (slices_pdqsortOrdered_int_b1 (n + 1) ls 0 (ls.length : Int)) (n + 1) () = some (.out (sortI ls)) := by
    show (slices_pdqsortOrdered_int_b1 (n + 1) ls 0 (ls.length : Int) ()).bind _ = _
    rw [slices_pdqsortOrdered_int_b1, i64_id (by omega) (by omega), if_pos (decide_eq_true (by omega))]
    unfold slices_insertionSortOrdered_int
    rw [i64_id (by omega) (by omega), show (0 : Int) + 1 = ((1 : Nat) : Int) from rfl, h]
    rfl
  rw [this]
  rfl
end Go.L
namespace Go.L
open Go Go.E
set_option linter.unusedVariables false
set_option linter.unusedSimpArgs false
set_option maxRecDepth 100000
def varN (r : Rule) (n : Nat) : Nat := (r.vars.getD n 0).toNat
theorem varN_at {m : Model} {r : Rule} (hv : okVars m.sizes.length r.vars = true) {n : Nat} {x : Int} (hx : r.vars[n]? = some x) : x = (varN r n : Int) ∧ varN r n < m.sizes.length ∧ n < r.vars.length := by
  have hb := (okVars_iff.1 hv).1 x (List.mem_of_getElem? hx)
  have e : varN r n = x.toNat := by unfold varN; rw [List.getD_eq_getElem?_getD, hx]; rfl
  exact ⟨by omega, by omega, (List.getElem?_eq_some_iff.1 hx).1⟩
theorem varN_lt {m : Model} {r : Rule} (hv : okVars m.sizes.length r.vars = true) {n : Nat} (hn : n < r.vars.length) : varN r n < m.sizes.length := (varN_at hv (List.getElem?_eq_getElem hn)).2.1
theorem varN_inj {m : Model} {r : Rule} (hv : okVars m.sizes.length r.vars = true) {i j : Nat} (hi : i < r.vars.length) (hj : j < r.vars.length) (h : varN r i = varN r j) : i = j := by
  have h1 := (varN_at hv (List.getElem?_eq_getElem hi)).1
  have h2 := (varN_at hv (List.getElem?_eq_getElem hj)).1
  have hd := distinct_nodup.1 (okVars_iff.1 hv).2
  have e : r.vars[i] = r.vars[j] := by rw [h1, h2, h]
  rcases Nat.lt_trichotomy i j with hlt | he | hgt
  · exact absurd e ((List.pairwise_iff_getElem.1 hd) i j hi hj hlt)
  · exact he
  · exact absurd e.symm ((List.pairwise_iff_getElem.1 hd) j i hj hi hgt)
theorem s_varN {m : Model} (hok : okModel m = true) {c v : Nat} (hc : c < m.sizes.length) (hv : v ≤ 3) : s_l7Var m (c : Int) (v : Int) = some (boolVar m c v) := by
  obtain ⟨h1, h5, ha, _⟩ := okModel_parts hok
  exact s_var m c v (by omega) h5 ha ⟨by omega, by omega⟩
theorem i_varN {m : Model} (hok : okModel m = true) {c v : Nat} (hc : c < m.sizes.length) (hv : v ≤ 3) : i_Model_boolVar m (c : Int) (v : Int) = some (boolVar m c v) := by
  obtain ⟨h1, h5, ha, _⟩ := okModel_parts hok
  exact i_var m c v (by omega) h5 ha ⟨by omega, by omega⟩
theorem var_same {m : Model} (hok : okModel m = true) {c d v u : Nat} (hc : c < m.sizes.length) (hd : d < m.sizes.length) (hv : v ≤ sizeAt m c) (hu : u ≤ sizeAt m d) (h : boolVar m c v = boolVar m d u) : c = d ∧ v = u := by
  have h1 := size_ok hok hc
  have h2 := size_ok hok hd
  have := bv_inj (okModel_parts hok).2.2.1 hc hd (v := (v : Int)) (u := (u : Int)) (by omega) (by omega) (by omega) (by omega) h
  exact ⟨this.1, by omega⟩
def diffTo (m : Model) (r : Rule) (v : Nat) : Nat → List Int
  | 0 => []
  | n + 1 => diffTo m r v n ++ (if v ≤ sizeAt m (varN r n) then [boolVar m (varN r n) v] else [])
theorem diffTo_len (m : Model) (r : Rule) (v : Nat) : ∀ n, (diffTo m r v n).length ≤ n
  | 0 => Nat.le_refl _
  | n + 1 => by
    have := diffTo_len m r v n
    rw [diffTo, List.length_append]
    split <;> simp <;> omega
theorem diffTo_mem {m : Model} {r : Rule} {v : Nat} {x : Int} : ∀ n, x ∈ diffTo m r v n ↔ ∃ j, j < n ∧ v ≤ sizeAt m (varN r j) ∧ x = boolVar m (varN r j) v
  | 0 => by simp [diffTo]
  | n + 1 => by
    rw [diffTo, List.mem_append, diffTo_mem n]
    constructor
    · rintro (⟨j, h1, h2, h3⟩ | h)
      · exact ⟨j, by omega, h2, h3⟩
      · split at h
        · rw [List.mem_singleton] at h; exact ⟨n, by omega, ‹_›, h⟩
        · cases h
    · rintro ⟨j, h1, h2, h3⟩
      by_cases e : j = n
      · subst e; right; rw [if_pos h2, h3]; simp
      · exact .inl ⟨j, by omega, h2, h3⟩
theorem diffTo_pos {m : Model} (hok : okModel m = true) {r : Rule} (hv : okVars m.sizes.length r.vars = true) (v : Nat) : ∀ x ∈ diffTo m r v r.vars.length, 1 ≤ x ∧ x ≤ 12 := by
  intro x hx
  obtain ⟨j, h1, h2, rfl⟩ := (diffTo_mem _).1 hx
  exact var_range hok (varN_lt hv h1) h2
def diffE (m : Model) (r : Rule) : Nat → List Con
  | 0 => []
  | v + 1 => diffE m r v ++ (if 1 < (diffTo m r v r.vars.length).length then [mostC (sortI (diffTo m r v r.vars.length))] else [])
theorem diffE_len (m : Model) (r : Rule) : ∀ n, (diffE m r n).length ≤ n
  | 0 => Nat.le_refl _
  | n + 1 => by
    have := diffE_len m r n
    rw [diffE, List.length_append]
    split <;> simp <;> omega
theorem sortI_pos {vs : List Int} (h : ∀ x ∈ vs, 1 ≤ x ∧ x ≤ 12) : ∀ x ∈ sortI vs, 1 ≤ x ∧ x ≤ 12 := fun x hx => h x ((sortI_perm vs).mem_iff.1 hx)
theorem s_diff (fu : Nat) (hf : FU ≤ fu) {m : Model} (hok : okModel m = true) {r : Rule} (hv : okVars m.sizes.length r.vars = true) : s_l7Different fu m r = some (diffE m r 4) := by
  have h5 := (okModel_parts hok).2.1
  have hl := okVars_len hv
  unfold s_l7Different
  rw [show cntF 0 (3 + 1) = some 4 from cntF_nat (n := 4) (by omega), Option.bind_some]
  have := count_to (b := s_l7Different_b1 fu m r) (fun v => diffE m r v) 4 0 (fun v _ hv4 => by
    have hin := range_to (b := s_l7Different_b2 m v) (fun n => diffTo m r v n) r.vars (fun n x hx => by
      obtain ⟨e, e2, e3⟩ := varN_at hv hx
      have hs := size_ok hok e2
      have hlen := diffTo_len m r v n
      rw [s_l7Different_b2, e, idx_lt e2, Option.bind_some, hs.1, diffTo]
      by_cases h : v ≤ sizeAt m (varN r n)
      · rw [if_pos (decide_eq_true (by omega)), s_varN hok e2 (by omega), Option.bind_some, app_le (by simp; omega), if_pos h]; rfl
      · rw [if_neg (by simp; omega), if_neg h, List.append_nil]; rfl)
    have hlen := diffTo_len m r v r.vars.length
    have hp := diffTo_pos hok hv v
    have hel := diffE_len m r v
    rw [s_l7Different_b1, show rangeL (s_l7Different_b2 m v) r.vars 0 [] = _ from hin, Option.bind_some, diffE]
    simp only
    by_cases h : 1 < (diffTo m r v r.vars.length).length
    · rw [if_pos (decide_eq_true (by omega)), s_sorted fu hf _ (by omega), Option.bind_some, s_most (sortI_pos hp) (by rw [(sortI_perm _).length_eq]; omega), Option.bind_some, app_le (by simp; omega), if_pos h]; rfl
    · rw [if_neg (by simp; omega), if_neg h, List.append_nil]; rfl)
  rw [show countL (s_l7Different_b1 fu m r) 4 0 [] = _ from this]
  rfl
theorem i_diff (fu : Nat) (hf : FU ≤ fu) {m : Model} (hok : okModel m = true) {r : Rule} (hv : okVars m.sizes.length r.vars = true) : countL (i_Model_encodeRule_b3 fu m r) 4 0 [] = some (.nx (diffE m r 4)) := by
  have h5 := (okModel_parts hok).2.1
  have hl := okVars_len hv
  exact count_to (b := i_Model_encodeRule_b3 fu m r) (fun v => diffE m r v) 4 0 (fun v _ hv4 => by
    have hin := range_to (b := i_Model_encodeRule_b4 m v) (fun n => diffTo m r v n) r.vars (fun n x hx => by
      obtain ⟨e, e2, e3⟩ := varN_at hv hx
      have hs := size_ok hok e2
      have hlen := diffTo_len m r v n
      rw [i_Model_encodeRule_b4, e, idx_lt e2, Option.bind_some, hs.1, diffTo]
      by_cases h : v ≤ sizeAt m (varN r n)
      · rw [if_pos (decide_eq_true (by omega)), i_varN hok e2 (by omega), Option.bind_some, app_le (by simp; omega), if_pos h]; rfl
      · rw [if_neg (by simp; omega), if_neg h, List.append_nil]; rfl)
    have hlen := diffTo_len m r v r.vars.length
    have hp := diffTo_pos hok hv v
    have hel := diffE_len m r v
    rw [i_Model_encodeRule_b3, show rangeL (i_Model_encodeRule_b4 m v) r.vars 0 [] = _ from hin, Option.bind_some, diffE]
    simp only
    by_cases h : 1 < (diffTo m r v r.vars.length).length
    · rw [if_pos (decide_eq_true (by omega)), i_sorted fu hf _ (by omega) (by omega), Option.bind_some, i_most (sortI_pos hp) (by rw [(sortI_perm _).length_eq]; omega), Option.bind_some, app_le (by simp; omega), if_pos h]; rfl
    · rw [if_neg (by simp; omega), if_neg h, List.append_nil]; rfl)
def linC (m : Model) (r : Rule) (n : Nat) (v : Nat) : Term := ⟨r.coefs.getD n 0 * (v : Int), boolVar m (varN r n) v⟩
def linT (m : Model) (r : Rule) : Nat → List Term
  | 0 => []
  | n + 1 => linT m r n ++ (List.range (sizeAt m (varN r n) + 1)).map (linC m r n)
theorem linT_mem {m : Model} {r : Rule} {t : Term} : ∀ n, t ∈ linT m r n ↔ ∃ j, j < n ∧ ∃ v, v ≤ sizeAt m (varN r j) ∧ t = linC m r j v
  | 0 => by simp [linT]
  | n + 1 => by
    rw [linT, List.mem_append, linT_mem n]
    constructor
    · rintro (⟨j, h1, h2⟩ | h)
      · exact ⟨j, by omega, h2⟩
      · obtain ⟨v, hv, rfl⟩ := List.mem_map.1 h
        rw [List.mem_range] at hv
        exact ⟨n, by omega, v, by omega, rfl⟩
    · rintro ⟨j, h1, v, h2, h3⟩
      by_cases e : j = n
      · subst e; right; exact List.mem_map.2 ⟨v, List.mem_range.2 (by omega), h3.symm⟩
      · exact .inl ⟨j, by omega, v, h2, h3⟩
theorem linT_len {m : Model} (hok : okModel m = true) {r : Rule} (hv : okVars m.sizes.length r.vars = true) : ∀ n, n ≤ r.vars.length → (linT m r n).length ≤ 4 * n
  | 0, _ => Nat.le_refl _
  | n + 1, hn => by
    have := linT_len hok hv n (by omega)
    have := (size_ok hok (varN_lt hv (n := n) (by omega))).2
    rw [linT, List.length_append, List.length_map, List.length_range]
    omega
theorem coef_at {r : Rule} (hc : r.coefs.all qCoef = true) (hl : r.coefs.length = r.vars.length) {n : Nat} (hn : n < r.vars.length) : idx r.coefs (n : Int) = some (r.coefs.getD n 0) ∧ -9 ≤ r.coefs.getD n 0 ∧ r.coefs.getD n 0 ≤ 9 := by
  have h1 : n < r.coefs.length := by omega
  have h2 := List.all_eq_true.1 hc r.coefs[n] (List.getElem_mem h1)
  unfold qCoef at h2
  simp at h2
  rw [idx_lt h1, getD_at _ h1]
  exact ⟨rfl, by omega, by omega⟩
theorem mul_small {c : Int} {v : Nat} (h1 : -9 ≤ c) (h2 : c ≤ 9) (hv : v ≤ 3) : -27 ≤ c * (v : Int) ∧ c * (v : Int) ≤ 27 := prod_bound ⟨h1, h2⟩ ⟨by omega, by omega⟩
theorem linC_ok {m : Model} (hok : okModel m = true) {r : Rule} (hv : okVars m.sizes.length r.vars = true) (hc : r.coefs.all qCoef = true) (hl : r.coefs.length = r.vars.length) {n v : Nat} (hn : n < r.vars.length) (hvn : v ≤ sizeAt m (varN r n)) : okLit (linC m r n v) ∧ 0 < (linC m r n v).lit := by
  have h1 := varN_lt hv hn
  have h2 := var_range hok h1 hvn
  have h3 := size_ok hok h1
  obtain ⟨_, h4, h5⟩ := coef_at hc hl hn
  have h6 := mul_small h4 h5 (v := v) (by omega)
  unfold linC okLit lit12
  simp only
  omega
theorem i_lin_loop {m : Model} (hok : okModel m = true) {r : Rule} (hv : okVars m.sizes.length r.vars = true) (hc : r.coefs.all qCoef = true) (hl : r.coefs.length = r.vars.length) : rangeL (i_Model_encodeRule_b1 m r) r.vars 0 [] = some (.nx (linT m r r.vars.length)) := by
  have h5 := (okModel_parts hok).2.1
  have hlen := okVars_len hv
  exact range_to (b := i_Model_encodeRule_b1 m r) (fun n => linT m r n) r.vars (fun n x hx => by
    obtain ⟨e, e2, e3⟩ := varN_at hv hx
    have hs := size_ok hok e2
    have hll := linT_len hok hv n (by omega)
    obtain ⟨c1, c2, c3⟩ := coef_at hc hl e3
    have hk : cntF 0 ((sizeAt m (varN r n) : Int) + 1) = some (sizeAt m (varN r n) + 1) := by rw [cntF_of (by omega) (by omega)]; congr 1
    have hin := count_to (b := i_Model_encodeRule_b2 m r n (varN r n : Int)) (fun k => linT m r n ++ (List.range k).map (linC m r n)) (sizeAt m (varN r n) + 1) 0 (fun k _ hk => by
      have hm := mul_small c2 c3 (v := k) (by omega)
      rw [i_Model_encodeRule_b2, c1, Option.bind_some, i_varN hok e2 (by omega), Option.bind_some, i64_id (by omega) (by omega), app_le (by simp; omega), List.range_succ, List.map_append, ← List.append_assoc]; rfl)
    rw [i_Model_encodeRule_b1, e, idx_lt e2, Option.bind_some, hs.1, i64_id (by omega) (by omega), hk, Option.bind_some]
    have hin0 : countL (i_Model_encodeRule_b2 m r n (varN r n : Int)) (sizeAt m (varN r n) + 1) 0 (linT m r n) = some (.nx (linT m r (n + 1))) := by
      have h0 := hin
      simp only [List.range_zero, List.map_nil, List.append_nil, Nat.zero_add] at h0
      rw [h0]; rfl
    rw [hin0]; rfl)
theorem netF_none {ts : List Term} {k : Int} (h : ∀ t ∈ ts, t.lit ≠ k ∧ t.lit ≠ -k) : netF ts k = 0 := sumR_zero _ fun t ht => by
  unfold con1
  rw [if_neg (h t ht).1, if_neg (h t ht).2]
theorem s_lin_loop (fu : Nat) (hf : FU ≤ fu) {m : Model} (hok : okModel m = true) {r : Rule} (hv : okVars m.sizes.length r.vars = true) (hc : r.coefs.all qCoef = true) (hl : r.coefs.length = r.vars.length) : rangeL (s_l7Linear_b1 fu m r) r.vars 0 (rowN []) = some (.nx (rowN (linT m r r.vars.length))) := by
  have hF := hf
  unfold FU at hF
  have h5 := (okModel_parts hok).2.1
  have hlen := okVars_len hv
  exact range_to (b := s_l7Linear_b1 fu m r) (fun n => rowN (linT m r n)) r.vars (fun n x hx => by
    obtain ⟨e, e2, e3⟩ := varN_at hv hx
    have hs := size_ok hok e2
    obtain ⟨c1, c2, c3⟩ := coef_at hc hl e3
    obtain ⟨j, hj, hQ⟩ := while_inv (b := s_l7Linear_b2 m r n (varN r n : Int)) (fun q (s : List Int × Int) => ∃ k : Nat, s.2 = (k : Int) ∧ k + q = sizeAt m (varN r n) + 1 ∧ s.1 = rowN (linT m r n ++ (List.range k).map (linC m r n)))
      (fun j => ∃ k, j = .nx (rowN (linT m r (n + 1)), k)) (fun q s ⟨k, hk, hq, hr⟩ => by
        obtain ⟨net, kk⟩ := s
        simp only at hk hr
        subst hk hr
        cases q with
        | zero =>
          have : k = sizeAt m (varN r n) + 1 := by omega
          subst this
          refine ⟨.brk (rowN (linT m r n ++ (List.range (sizeAt m (varN r n) + 1)).map (linC m r n)), ((sizeAt m (varN r n) + 1 : Nat) : Int)), by rw [s_l7Linear_b2, idx_lt e2, Option.bind_some, hs.1, if_neg (by simp; omega)], ((sizeAt m (varN r n) + 1 : Nat) : Int), rfl⟩
        | succ q =>
          have hkm : k ≤ sizeAt m (varN r n) := by omega
          have hr := var_range hok e2 hkm
          have hm := mul_small c2 c3 (v := k) (by omega)
          obtain ⟨hokl, hpos⟩ := linC_ok hok hv hc hl e3 hkm
          have hbn : ∃ b : Nat, boolVar m (varN r n) k = (b : Int) ∧ b < 13 := ⟨(boolVar m (varN r n) k).toNat, by omega, by omega⟩
          obtain ⟨b, hb, hb13⟩ := hbn
          have hz : netF (linT m r n ++ (List.range k).map (linC m r n)) (b : Int) = 0 := by
            refine netF_none fun t ht => ?_
            have : t.lit ≠ (b : Int) ∧ 0 < t.lit := by
              rcases List.mem_append.1 ht with ht | ht
              · obtain ⟨j, j1, v, j2, rfl⟩ := (linT_mem n).1 ht
                refine ⟨fun e4 => ?_, (linC_ok hok hv hc hl (by omega) j2).2⟩
                have e5 := var_same hok (varN_lt hv (n := j) (by omega)) e2 j2 hkm (by rw [hb]; exact e4)
                have := varN_inj hv (by omega) e3 e5.1
                omega
              · obtain ⟨v, hv2, rfl⟩ := List.mem_map.1 ht
                rw [List.mem_range] at hv2
                refine ⟨fun e4 => ?_, (linC_ok hok hv hc hl e3 (by omega)).2⟩
                have e5 := var_same hok e2 e2 (by omega) hkm (v := v) (by rw [hb]; exact e4)
                omega
            exact ⟨this.1, by omega⟩
          refine ⟨.cont (rowN (linT m r n ++ (List.range (k + 1)).map (linC m r n)), ((k + 1 : Nat) : Int)), ?_, q, by omega, k + 1, rfl, by omega, rfl⟩
          have hset := row_set (linT m r n ++ (List.range k).map (linC m r n)) (linC m r n k) hokl b (by unfold linC absI; simp only; omega) (r.coefs.getD n 0 * (k : Int)) (by rw [hz, if_pos hpos]; unfold linC; simp only; omega)
          rw [s_l7Linear_b2, idx_lt e2, Option.bind_some, hs.1, if_pos (decide_eq_true (by omega)), s_varN hok e2 (by omega), Option.bind_some, c1, Option.bind_some, hb, idx_nat, rowN_get _ b hb13, Option.bind_some, i64_id (by omega) (by omega), i64_id (by omega) (by omega), Int.toNat_natCast, hset, List.range_succ, List.map_append, ← List.append_assoc]
          rfl)
      fu (sizeAt m (varN r n) + 1) (rowN (linT m r n), 0) ⟨0, rfl, by omega, by simp⟩ (by omega)
    obtain ⟨k, rfl⟩ := hQ
    rw [s_l7Linear_b1, e, hj]; rfl)
def linE (m : Model) (r : Rule) : List Con := [(normC (linT m r r.vars.length) r.bound).1]
theorem linT_ok {m : Model} (hok : okModel m = true) {r : Rule} (hv : okVars m.sizes.length r.vars = true) (hc : r.coefs.all qCoef = true) (hl : r.coefs.length = r.vars.length) : (∀ t ∈ linT m r r.vars.length, okLit t ∧ 0 < t.lit) ∧ (linT m r r.vars.length).length ≤ 20 := by
  have h5 := (okModel_parts hok).2.1
  have hlen := okVars_len hv
  refine ⟨fun t ht => ?_, by have := linT_len hok hv r.vars.length (Nat.le_refl _); omega⟩
  obtain ⟨j, j1, v, j2, rfl⟩ := (linT_mem _).1 ht
  exact linC_ok hok hv hc hl j1 j2
theorem negS_zero {ts : List Term} (h : ∀ t ∈ ts, 0 < t.lit) : negS ts = 0 := sumR_zero _ fun t ht => by
  have := h t ht
  rw [if_neg (by omega)]
theorem s_lin (fu : Nat) (hf : FU ≤ fu) {m : Model} (hok : okModel m = true) {r : Rule} (hv : okVars m.sizes.length r.vars = true) (hc : r.coefs.all qCoef = true) (hl : r.coefs.length = r.vars.length) (hb : -1000 ≤ r.bound ∧ r.bound ≤ 1000) : s_l7Linear fu m r = some (linE m r) := by
  obtain ⟨h1, h2⟩ := linT_ok hok hv hc hl
  unfold s_l7Linear
  rw [mkRow0, Option.bind_some, s_lin_loop fu hf hok hv hc hl, Option.bind_some]
  simp only
  rw [s_norm (fun t ht => (h1 t ht).1) (by omega) r.bound (by omega), Option.bind_some]
  unfold linE normC
  rw [negS_zero fun t ht => (h1 t ht).2, Int.sub_zero]
theorem i_lin {m : Model} (hok : okModel m = true) {r : Rule} (hv : okVars m.sizes.length r.vars = true) (hc : r.coefs.all qCoef = true) (hl : r.coefs.length = r.vars.length) (hb : -1000 ≤ r.bound ∧ r.bound ≤ 1000) : ((i_normal (linT m r r.vars.length) r.bound).bind fun x102 => some [x102.1]) = some (linE m r) := by
  obtain ⟨h1, h2⟩ := linT_ok hok hv hc hl
  rw [i_norm (fun t ht => (h1 t ht).1) (by omega) r.bound (by omega), Option.bind_some]
  rfl
end Go.L
namespace Go.L
open Go Go.E
set_option linter.unusedVariables false
set_option linter.unusedSimpArgs false
set_option maxRecDepth 100000
def sizesR (m : Model) (r : Rule) : List Int := r.vars.map fun x => m.sizes.getD x.toNat 0
theorem sizesR_len (m : Model) (r : Rule) : (sizesR m r).length = r.vars.length := by simp [sizesR]
theorem sizesR_at {m : Model} (hok : okModel m = true) {r : Rule} (hv : okVars m.sizes.length r.vars = true) {n : Nat} (hn : n < r.vars.length) : (sizesR m r)[n]? = some (sizeAt m (varN r n) : Int) := by
  obtain ⟨e, e2, _⟩ := varN_at hv (List.getElem?_eq_getElem hn)
  have hs := size_ok hok e2
  unfold sizesR
  rw [List.getElem?_map, List.getElem?_eq_getElem hn, Option.map_some]
  rw [show r.vars[n].toNat = varN r n by omega, getD_at _ e2, hs.1]
theorem sizesR_ok {m : Model} (hok : okModel m = true) {r : Rule} (hv : okVars m.sizes.length r.vars = true) : (sizesR m r).all qSize = true := by
  rw [List.all_eq_true]
  intro x hx
  obtain ⟨n, hn⟩ := List.getElem?_of_mem hx
  have hl := (List.getElem?_eq_some_iff.1 hn).1
  rw [sizesR_len] at hl
  rw [sizesR_at hok hv hl] at hn
  injection hn with hn
  have := (size_ok hok (varN_lt hv hl)).2
  rw [qSize_iff]; omega
theorem row_at {m : Model} (hok : okModel m = true) {r : Rule} (hv : okVars m.sizes.length r.vars = true) {vs : List Int} (hf : fit (sizesR m r) vs) {n : Nat} (hn : n < r.vars.length) : ∃ v : Nat, vs[n]? = some (v : Int) ∧ vs.getD n 0 = (v : Int) ∧ v ≤ sizeAt m (varN r n) := by
  have hl := fit_len hf
  rw [sizesR_len] at hl
  have h1 := (fit_iff _ _).1 hf
  have hx : vs[n]? = some vs[n] := List.getElem?_eq_getElem (by omega)
  have h2 := h1.2 n vs[n] hx
  rw [List.getD_eq_getElem?_getD, sizesR_at hok hv hn] at h2
  simp only [Option.getD_some] at h2
  refine ⟨vs[n].toNat, ?_, ?_, by omega⟩
  · rw [hx]; congr 1; omega
  · rw [getD_at _ (by omega)]; omega
def litN (m : Model) (r : Rule) (vs : List Int) (n : Nat) : Int := -(boolVar m (varN r n) (vs.getD n 0))
def litsF (m : Model) (r : Rule) (vs : List Int) (n : Nat) : List Int := (List.range n).map (litN m r vs)
theorem litsF_succ (m : Model) (r : Rule) (vs : List Int) (n : Nat) : litsF m r vs (n + 1) = litsF m r vs n ++ [litN m r vs n] := by
  unfold litsF; rw [List.range_succ, List.map_append]; rfl
theorem litN_abs {m : Model} (hok : okModel m = true) {r : Rule} (hv : okVars m.sizes.length r.vars = true) {vs : List Int} (hf : fit (sizesR m r) vs) {n : Nat} (hn : n < r.vars.length) : ∃ v : Nat, vs.getD n 0 = (v : Int) ∧ v ≤ sizeAt m (varN r n) ∧ litN m r vs n = -(boolVar m (varN r n) v) ∧ absI (litN m r vs n) = boolVar m (varN r n) v ∧ lit12 (litN m r vs n) := by
  obtain ⟨v, h1, h2, h3⟩ := row_at hok hv hf hn
  have hr := var_range hok (varN_lt hv hn) h3
  refine ⟨v, h2, h3, by unfold litN; rw [h2], ?_, ?_⟩
  · unfold litN absI; rw [h2]; omega
  · unfold litN lit12; rw [h2]; omega
theorem litsF_lit {m : Model} (hok : okModel m = true) {r : Rule} (hv : okVars m.sizes.length r.vars = true) {vs : List Int} (hf : fit (sizesR m r) vs) : ∀ l ∈ litsF m r vs r.vars.length, lit12 l := by
  intro l hl
  obtain ⟨n, hn, rfl⟩ := List.mem_map.1 hl
  rw [List.mem_range] at hn
  obtain ⟨_, _, _, _, _, h⟩ := litN_abs hok hv hf hn
  exact h
theorem litsF_dis {m : Model} (hok : okModel m = true) {r : Rule} (hv : okVars m.sizes.length r.vars = true) {vs : List Int} (hf : fit (sizesR m r) vs) : distinctA (litsF m r vs r.vars.length) := by
  unfold distinctA litsF List.Nodup
  rw [List.map_map, List.pairwise_map]
  refine List.Pairwise.imp_of_mem ?_ List.pairwise_lt_range
  intro a b ha hb hab e
  rw [List.mem_range] at ha hb
  obtain ⟨v, _, h1, _, h2, _⟩ := litN_abs hok hv hf ha
  obtain ⟨u, _, g1, _, g2, _⟩ := litN_abs hok hv hf hb
  simp only [Function.comp] at e
  rw [h2, g2] at e
  have := var_same hok (varN_lt hv ha) (varN_lt hv hb) h1 g1 e
  have := varN_inj hv ha hb this.1
  omega
theorem litsF_len (m : Model) (r : Rule) (vs : List Int) (n : Nat) : (litsF m r vs n).length = n := by simp [litsF]
def forb1 (m : Model) (r : Rule) (vs : List Int) : List Con := if ruleHolds r vs then [] else [clC (litsF m r vs r.vars.length)]
def forbF (m : Model) (r : Rule) (css : List (List Int)) : List Con := css.flatMap (forb1 m r)
theorem forbF_len (m : Model) (r : Rule) : ∀ css : List (List Int), (forbF m r css).length ≤ css.length
  | [] => Nat.le_refl _
  | c :: css => by
    have := forbF_len m r css
    unfold forbF at *
    rw [List.flatMap_cons, List.length_append, List.length_cons]
    have : (forb1 m r c).length ≤ 1 := by unfold forb1; split <;> simp
    omega
def zerosR (r : Rule) : List Int := List.replicate r.vars.length 0
theorem zerosR_fit {m : Model} (hok : okModel m = true) {r : Rule} (hv : okVars m.sizes.length r.vars = true) : fit (sizesR m r) (zerosR r) := by
  have := (fit_zeros (sizesR m r) fun s hs => (qSize_iff.1 (List.all_eq_true.1 (sizesR_ok hok hv) s hs)).1).1
  rw [sizesR_len] at this
  exact this
def forbE (m : Model) (r : Rule) : List Con := forbF m r (enumC (sizesR m r) (zerosR r))
theorem vals_small {m : Model} (hok : okModel m = true) {r : Rule} (hv : okVars m.sizes.length r.vars = true) {vs : List Int} (hf : fit (sizesR m r) vs) : ∀ x ∈ vs, 0 ≤ x ∧ x ≤ 3 := by
  intro x hx
  obtain ⟨n, hn⟩ := List.getElem?_of_mem hx
  have hl := (List.getElem?_eq_some_iff.1 hn).1
  have hlen := fit_len hf
  rw [sizesR_len] at hlen
  obtain ⟨v, h1, _, h3⟩ := row_at hok hv hf (n := n) (by omega)
  rw [h1] at hn
  injection hn with hn
  have := (size_ok hok (varN_lt hv (n := n) (by omega))).2
  omega
theorem forb_len {m : Model} (hok : okModel m = true) {r : Rule} (hv : okVars m.sizes.length r.vars = true) : (forbE m r).length ≤ 1024 := by
  have hl5 := (okModel_parts hok).2.1
  have hl := okVars_len hv
  have h1 := forbF_len m r (enumC (sizesR m r) (zerosR r))
  have h2 := enum_len _ rfl (zerosR_fit hok hv)
  have h3 := rem_small (zerosR_fit hok hv) (sizesR_ok hok hv) (by rw [sizesR_len]; omega)
  unfold forbE
  omega
theorem i_lits {m : Model} (hok : okModel m = true) {r : Rule} (hv : okVars m.sizes.length r.vars = true) {vs : List Int} (hf : fit (sizesR m r) vs) : rangeL (i_Model_encodeRule_b9 m vs) r.vars 0 [] = some (.nx (litsF m r vs r.vars.length)) := by
  have hl5 := (okModel_parts hok).2.1
  have hl := okVars_len hv
  exact range_to (b := i_Model_encodeRule_b9 m vs) (fun n => litsF m r vs n) r.vars (fun n x hx => by
    obtain ⟨e, e2, e3⟩ := varN_at hv hx
    obtain ⟨v, h1, h2, h3⟩ := row_at hok hv hf e3
    obtain ⟨u, h4, h5, h6, h7, h8⟩ := litN_abs hok hv hf e3
    have huv : u = v := by omega
    subst huv
    have hs := size_ok hok e2
    rw [i_Model_encodeRule_b9, idx_nat, h1, Option.bind_some, e, i_varN hok e2 (by omega), Option.bind_some, i64_id (by have := h8.2.1; omega) (by have := h8.2.2; omega), app_le (by rw [litsF_len]; simp; omega), litsF_succ, h6]; rfl)
theorem i_forb (fu : Nat) (hfu : FU ≤ fu) {m : Model} (hok : okModel m = true) {r : Rule} (hr : okRule m.sizes.length r = true) : i_Model_encodeRule_i6 fu m r (sizesR m r) (zerosR r) = some (forbE m r) := by
  have hF := hfu
  unfold FU at hF
  have hv := (okRule_parts hr).1
  have hl5 := (okModel_parts hok).2.1
  have hl := okVars_len hv
  have hz := zerosR_fit hok hv
  have ha := sizesR_ok hok hv
  have hfl := forb_len hok hv
  unfold i_Model_encodeRule_i6
  rw [clone_int _ (by simp [zerosR]; omega), Option.bind_some]
  obtain ⟨j, hj, hQ⟩ := while_inv (b := i_Model_encodeRule_b7 fu m r (sizesR m r)) (fun k s => fit (sizesR m r) s.1 ∧ k = rem (sizesR m r) s.1 ∧ s.2 ++ forbF m r (enumC (sizesR m r) s.1) = forbE m r)
    (fun j => j = .out (forbE m r))
    (by
      rintro k ⟨cs, out⟩ ⟨hf, rfl, ht⟩
      simp only at hf ht
      have hlen := fit_len hf
      rw [sizesR_len] at hlen
      have hout : out.length ≤ 1024 := by rw [← ht] at hfl; simp at hfl; omega
      have hhold := i_holdsV m.sizes.length r cs hlen (by omega) (vals_small hok hv hf) hr
      obtain ⟨j, hjl, hw, hj0, hjs⟩ := i_step (sizesR m r) cs hf (by omega) fu hfu (b := i_Model_encodeRule_b10 (sizesR m r)) (fun _ _ => rfl)
      have hi8 : i_Model_encodeRule_i8 fu m r cs out = some (true, out ++ forb1 m r cs) := by
        unfold i_Model_encodeRule_i8 forb1
        rw [hhold, Option.bind_some]
        cases ruleHolds r cs with
        | true => simp
        | false =>
          rw [if_pos (show (!false) = true from rfl), i_lits hok hv hf, Option.bind_some]
          simp only
          rw [i_clause fu hfu _ (litsF_lit hok hv hf) (litsF_dis hok hv hf) (by rw [litsF_len]; omega), Option.bind_some, app_le (by simp; omega)]
          rfl
      have hbody : i_Model_encodeRule_b7 fu m r (sizesR m r) (cs, out) = (if decide (((j : Int) - 1) < 0) then (some (.out (out ++ forb1 m r cs))) else ((idx (zfrom cs j) ((j : Int) - 1)).bind fun x => some (.cont (((zfrom cs j).set (Int.toNat ((j : Int) - 1)) (i64 (x + 1))), out ++ forb1 m r cs)))) := by
        rw [i_Model_encodeRule_b7, hi8, Option.bind_some]
        simp only [if_true]
        rw [hw, Option.bind_some]
      rw [hbody]
      cases j with
      | zero =>
        refine ⟨_, by rw [if_pos (by simp)], ?_⟩
        show Jn.out _ = _
        rw [enum_none hf (hj0 rfl)] at ht
        unfold forbF at ht
        rw [List.flatMap_singleton] at ht
        rw [ht]
      | succ k =>
        obtain ⟨hk, hnx⟩ := hjs k rfl
        obtain ⟨hft, hrt⟩ := next_some hf hnx
        have hb := fit_get hf hk
        have h3 := vals_small hok hv hf cs[k] (List.getElem_mem hk)
        have e : (((k + 1 : Nat) : Int) - 1) = (k : Int) := by omega
        rw [e, if_neg (by simp), idx_nat, zfrom_get cs k hk, Option.bind_some, i64_id (by omega) (by omega), Int.toNat_natCast]
        refine ⟨_, rfl, rem (sizesR m r) ((zfrom cs (k + 1)).set k (cs[k] + 1)), ?_, hft, rfl, ?_⟩
        · show _ < rem (sizesR m r) cs
          omega
        · rw [enum_some hf hnx] at ht
          unfold forbF at ht ⊢
          rw [List.flatMap_cons, ← List.append_assoc] at ht
          exact ht)
    fu (rem (sizesR m r) (zerosR r)) (zerosR r, []) ⟨hz, rfl, rfl⟩ (by have := rem_small hz ha (by rw [sizesR_len]; omega); omega)
  rw [hj, hQ]
  rfl
def cellsS (m : Model) (r : Rule) (vs : List Int) : Nat → List Int
  | 0 => List.replicate m.sizes.length 0
  | n + 1 => (cellsS m r vs n).set (varN r n) (vs.getD n 0)
theorem cellsS_len (m : Model) (r : Rule) (vs : List Int) : ∀ n, (cellsS m r vs n).length = m.sizes.length
  | 0 => by simp [cellsS]
  | n + 1 => by rw [cellsS, List.length_set, cellsS_len m r vs n]
theorem cellsS_in {m : Model} (hok : okModel m = true) {r : Rule} (hv : okVars m.sizes.length r.vars = true) {vs : List Int} (hf : fit (sizesR m r) vs) : ∀ n, n ≤ r.vars.length → cellsIn m (cellsS m r vs n) = true
  | 0, _ => by
    rw [cellsIn_iff]
    refine ⟨by simp [cellsS], fun i x hx => ?_⟩
    unfold cellsS at hx
    have hi := (List.getElem?_eq_some_iff.1 hx).1
    rw [List.length_replicate] at hi
    rw [List.getElem?_replicate_of_lt hi] at hx
    injection hx with hx
    have := size_ok hok hi
    rw [getD_at _ hi]
    omega
  | n + 1, hn => by
    have ih := cellsIn_iff.1 (cellsS_in hok hv hf n (by omega))
    rw [cellsIn_iff]
    refine ⟨by rw [cellsS_len], fun i x hx => ?_⟩
    rw [cellsS, List.getElem?_set] at hx
    split at hx
    · rename_i e
      subst e
      split at hx
      · injection hx with hx
        obtain ⟨v, _, h2, h3⟩ := row_at hok hv hf (n := n) (by omega)
        have h4 := varN_lt hv (n := n) (by omega)
        have h5 := size_ok hok h4
        rw [getD_at _ h4]
        omega
      · cases hx
    · exact ih.2 i x hx
theorem cellsS_get {m : Model} {r : Rule} (hv : okVars m.sizes.length r.vars = true) (vs : List Int) : ∀ n, n ≤ r.vars.length → ∀ j, j < n → (cellsS m r vs n).getD (varN r j) 0 = vs.getD j 0
  | 0, _, j, h => by omega
  | n + 1, hn, j, h => by
    have hl := varN_lt hv (n := n) (by omega)
    rw [cellsS, List.getD_eq_getElem?_getD, List.getElem?_set]
    by_cases e : j = n
    · subst e
      rw [if_pos rfl, if_pos (by rw [cellsS_len]; exact hl)]; rfl
    · rw [if_neg (fun h' => e (varN_inj hv (by omega) (by omega) h'.symm)), ← List.getD_eq_getElem?_getD]
      exact cellsS_get hv vs n (by omega) j (by omega)
theorem valsOf_S {m : Model} (hok : okModel m = true) {r : Rule} (hv : okVars m.sizes.length r.vars = true) {vs : List Int} (hf : fit (sizesR m r) vs) : valsOf r (cellsS m r vs r.vars.length) = vs := by
  have hlen := fit_len hf
  rw [sizesR_len] at hlen
  apply List.ext_getElem (by simp [valsOf]; omega)
  intro n h1 h2
  have hn : n < r.vars.length := by omega
  obtain ⟨e, _, _⟩ := varN_at hv (List.getElem?_eq_getElem hn)
  have e0 : (valsOf r (cellsS m r vs r.vars.length))[n] = (cellsS m r vs r.vars.length).getD r.vars[n].toNat 0 := by simp [valsOf]
  rw [e0, show r.vars[n].toNat = varN r n by omega, cellsS_get hv vs _ (Nat.le_refl _) n hn, getD_at _ h2]
theorem s_forb (fu : Nat) (hfu : FU ≤ fu) {m : Model} (hs : smallM m) (hok : okModel m = true) {r : Rule} (hm : r ∈ m.rules) : s_l7Forbid fu m r = some (forbE m r) := by
  have hF := hfu
  unfold FU at hF
  have hr := okRule_mem hok hm
  have hv := (okRule_parts hr).1
  obtain ⟨h1, hl5, hall, _⟩ := okModel_parts hok
  have hl := okVars_len hv
  have hz := zerosR_fit hok hv
  have ha := sizesR_ok hok hv
  have hfl := forb_len hok hv
  unfold s_l7Forbid
  rw [range_map (b := s_l7Forbid_b1 m) (fun x => m.sizes.getD x.toNat 0) r.vars fun i x out hx ho => by
    have hi := (List.getElem?_eq_some_iff.1 hx).1
    obtain ⟨e, e2, _⟩ := varN_at hv hx
    rw [s_l7Forbid_b1, e, idx_lt e2, Option.bind_some, app_le (by simp; omega), Int.toNat_natCast, getD_at _ e2]; rfl, Option.bind_some]
  simp only
  rw [mkN_le _ (by omega), Option.bind_some]
  have hrem := rem_small hz ha (by rw [sizesR_len]; omega)
  obtain ⟨j, hj, hQ⟩ := while_inv (b := s_l7Forbid_b2 fu m r (sizesR m r)) (fun k s => (s.2.2 = true ∧ fit (sizesR m r) s.2.1 ∧ k = rem (sizesR m r) s.2.1 + 1 ∧ s.1 ++ forbF m r (enumC (sizesR m r) s.2.1) = forbE m r) ∨ (s.2.2 = false ∧ s.1 = forbE m r))
    (fun j => ∃ a b, j = .nx (forbE m r, a, b))
    (by
      rintro k ⟨out, cs, more⟩ h
      rcases h with ⟨hmore, hf, hk, ht⟩ | ⟨hmore, ht⟩
      · simp only at hmore hf hk ht
        subst hmore hk
        have hlen := fit_len hf
        rw [sizesR_len] at hlen
        have hout : out.length ≤ 1024 := by rw [← ht] at hfl; simp at hfl; omega
        have hin := range_to (b := s_l7Forbid_b3 m r) (fun n => (cellsS m r cs n, litsF m r cs n)) cs (fun n x hx => by
          have hn : n < r.vars.length := by rw [← hlen]; exact (List.getElem?_eq_some_iff.1 hx).1
          obtain ⟨e, e2, _⟩ := varN_at hv (List.getElem?_eq_getElem hn)
          obtain ⟨v, g1, g2, g3⟩ := row_at hok hv hf hn
          obtain ⟨u, g4, g5, g6, g7, g8⟩ := litN_abs hok hv hf hn
          have huv : u = v := by omega
          subst huv
          rw [g1] at hx
          injection hx with hx
          subst hx
          have hsz := size_ok hok e2
          rw [s_l7Forbid_b3, idx_lt hn, Option.bind_some, e, idx_nat, List.getElem?_eq_getElem (by rw [cellsS_len]; exact e2), Option.bind_some, s_varN hok e2 (by omega), Option.bind_some, i64_id (by have := g8.2.1; omega) (by have := g8.2.2; omega), app_le (by rw [litsF_len]; simp; omega), litsF_succ, g6, cellsS, g2, Int.toNat_natCast]; rfl)
        rw [hlen] at hin
        have hhold := s_holds hs hl5 hall (cellsS_in hok hv hf _ (Nat.le_refl _)) r hm hr
        rw [valsOf_S hok hv hf] at hhold
        have hnext := s_next ({ sizes := sizesR m r, rules := [] } : Model) cs hf (by omega) ha fu hfu
        have hbody : s_l7Forbid_b2 fu m r (sizesR m r) (out, cs, true) = some (.cont (out ++ forb1 m r cs, (match nextC (sizesR m r) cs with | some c => (c, true) | none => (List.replicate cs.length 0, false)))) := by
          rw [s_l7Forbid_b2, if_pos rfl, mkN_le _ (by omega), Option.bind_some]
          rw [show rangeL (s_l7Forbid_b3 m r) cs 0 (List.replicate m.sizes.length 0, []) = _ from hin, Option.bind_some]
          simp only
          rw [hhold, Option.bind_some, hnext]
          unfold forb1
          cases ruleHolds r cs with
          | true =>
            simp only [Bool.not_true, Bool.false_eq_true, if_false, if_true, Option.bind_some, List.append_nil]
            all_goals (cases nextC (sizesR m r) cs <;> rfl)
          | false =>
            rw [if_pos (show (!false) = true from rfl), s_clauseD (litsF_lit hok hv hf) (litsF_dis hok hv hf) (by rw [litsF_len]; omega), Option.bind_some, app_le (by simp; omega)]
            simp only [Option.bind_some, Bool.false_eq_true, if_false]
            all_goals (cases nextC (sizesR m r) cs <;> rfl)
        refine ⟨_, hbody, ?_⟩
        cases hn : nextC (sizesR m r) cs with
        | none =>
          refine ⟨0, by omega, .inr ⟨rfl, ?_⟩⟩
          rw [enum_none hf hn] at ht
          unfold forbF at ht
          rw [List.flatMap_singleton] at ht
          exact ht
        | some c =>
          obtain ⟨hft, hrt⟩ := next_some hf hn
          refine ⟨rem (sizesR m r) c + 1, by omega, .inl ⟨rfl, hft, rfl, ?_⟩⟩
          rw [enum_some hf hn] at ht
          unfold forbF at ht ⊢
          rw [List.flatMap_cons, ← List.append_assoc] at ht
          exact ht
      · simp only at hmore ht
        subst hmore ht
        refine ⟨.brk (forbE m r, cs, false), by rw [s_l7Forbid_b2, if_neg (by simp)], _, _, rfl⟩)
    fu (rem (sizesR m r) (zerosR r) + 1) ([], zerosR r, true) (.inl ⟨rfl, hz, rfl, rfl⟩) (by omega)
  have hj' : whileL (s_l7Forbid_b2 fu m r (List.map (fun x => m.sizes.getD x.toNat 0) r.vars)) fu ([], List.replicate r.vars.length 0, true) = some j := hj
  rw [hj']
  obtain ⟨a, b, rfl⟩ := hQ
  rfl
def ruleE (m : Model) (r : Rule) : List Con := if r.kind = 1 then linE m r else if r.kind = 2 then diffE m r 4 else forbE m r
theorem s_ruleE (fu : Nat) (hf : FU ≤ fu) {m : Model} (hs : smallM m) (hok : okModel m = true) {r : Rule} (hm : r ∈ m.rules) : s_l7Rule fu m r = some (ruleE m r) := by
  have hr := okRule_mem hok hm
  obtain ⟨hv, _, hk⟩ := okRule_parts hr
  unfold s_l7Rule ruleE
  rcases hk with ⟨hk, hc1, hc2, hb1, hb2⟩ | hk | ⟨hk, _⟩ | ⟨hk, _⟩
  · rw [hk, if_pos rfl, if_pos (show ((1 : Int) == 1) = true from rfl), s_lin fu hf hok hv hc1 hc2 ⟨hb1, hb2⟩]; rfl
  · rw [hk, if_neg (by decide), if_pos (by decide), if_neg (by decide), if_pos rfl, s_diff fu hf hok hv]; rfl
  · rw [hk, if_neg (by decide), if_neg (by decide), if_neg (by decide), if_neg (by decide), s_forb fu hf hs hok hm]; rfl
  · rw [hk, if_neg (by decide), if_neg (by decide), if_neg (by decide), if_neg (by decide), s_forb fu hf hs hok hm]; rfl
theorem i_ruleE (fu : Nat) (hf : FU ≤ fu) {m : Model} (hok : okModel m = true) {r : Rule} (hm : r ∈ m.rules) : i_Model_encodeRule fu m r = some (ruleE m r) := by
  have hr := okRule_mem hok hm
  obtain ⟨hv, _, hk⟩ := okRule_parts hr
  have hl5 := (okModel_parts hok).2.1
  have hl := okVars_len hv
  have hforb : (((rangeL (i_Model_encodeRule_b5 m) r.vars 0 ([])) : Option (Jn (List Int) (List Con))).bind fun j => match j with | .nx sizes_251 => ((mkN (sizes_251.length : Int) 0).bind fun x286 => (i_Model_encodeRule_i6 fu m r sizes_251 x286).bind fun g11_0_290 => some g11_0_290) | .out t => some t) = some (forbE m r) := by
    rw [range_map (b := i_Model_encodeRule_b5 m) (fun x => m.sizes.getD x.toNat 0) r.vars fun i x out hx ho => by
      have hi := (List.getElem?_eq_some_iff.1 hx).1
      obtain ⟨e, e2, _⟩ := varN_at hv hx
      rw [i_Model_encodeRule_b5, e, idx_lt e2, Option.bind_some, app_le (by simp; omega), Int.toNat_natCast, getD_at _ e2]; rfl, Option.bind_some]
    simp only
    rw [mkN_le _ (by simp; omega), Option.bind_some]
    have := i_forb fu hf hok hr
    unfold sizesR zerosR at this
    rw [List.length_map, this]; rfl
  unfold i_Model_encodeRule ruleE
  rcases hk with ⟨hk, hc1, hc2, hb1, hb2⟩ | hk | ⟨hk, _⟩ | ⟨hk, _⟩
  · rw [hk, if_pos rfl, if_pos (show ((1 : Int) == 1) = true from rfl), i_lin_loop hok hv hc1 hc2, Option.bind_some]
    exact i_lin hok hv hc1 hc2 ⟨hb1, hb2⟩
  · rw [hk, if_neg (by decide), if_pos (by decide), if_neg (by decide), if_pos rfl, show cntF 0 4 = some 4 from cntF_nat (n := 4) (by omega), Option.bind_some, i_diff fu hf hok hv]; rfl
  · rw [hk, if_neg (by decide), if_neg (by decide), if_neg (by decide), if_neg (by decide)]; exact hforb
  · rw [hk, if_neg (by decide), if_neg (by decide), if_neg (by decide), if_neg (by decide)]; exact hforb
theorem ruleE_len {m : Model} (hok : okModel m = true) {r : Rule} (hm : r ∈ m.rules) : (ruleE m r).length ≤ 1024 := by
  have hv := (okRule_parts (okRule_mem hok hm)).1
  unfold ruleE
  split
  · simp [linE]
  · split
    · have := diffE_len m r 4; omega
    · exact forb_len hok hv
def rulesE (m : Model) (n : Nat) : List Con := (m.rules.take n).flatMap (ruleE m)
theorem rulesE_succ {m : Model} {n : Nat} {r : Rule} (hr : m.rules[n]? = some r) : rulesE m (n + 1) = rulesE m n ++ ruleE m r := by
  unfold rulesE
  rw [take_snoc1 hr, List.flatMap_append, List.flatMap_singleton]
theorem rulesE_len {m : Model} (hok : okModel m = true) : ∀ n, n ≤ m.rules.length → (rulesE m n).length ≤ 1024 * n
  | 0, _ => by simp [rulesE]
  | n + 1, hn => by
    have := rulesE_len hok n (by omega)
    have hr : m.rules[n]? = some m.rules[n] := List.getElem?_eq_getElem (by omega)
    have := ruleE_len hok (List.mem_of_getElem? hr)
    rw [rulesE_succ hr, List.length_append]; omega
def encL2 (m : Model) : List Con := cellsE m m.sizes.length ++ rulesE m m.rules.length
def encM (m : Model) : List Con × Bool := if okModel m then (if (encL2 m).length > 400 then ([], false) else (encL2 m, true)) else ([], false)
theorem s_enc (fu : Nat) (hf : FU ≤ fu) {m : Model} (hs : smallM m) : s_EncodeModel fu m = some (encM m) := by
  unfold s_EncodeModel encM
  rw [s_model m hs fu hf, Option.bind_some]
  cases hok : okModel m with
  | false => rfl
  | true =>
    obtain ⟨h1, hl5, _, h8, _⟩ := okModel_parts hok
    have hcl := cellsE_len m m.sizes.length
    have hru := range_to (b := s_EncodeModel_b2 fu m) (fun n => cellsE m m.sizes.length ++ rulesE m n) m.rules (fun n r hr => by
      have hn := (List.getElem?_eq_some_iff.1 hr).1
      have hm := List.mem_of_getElem? hr
      have l1 := rulesE_len hok n (by omega)
      have l2 := ruleE_len hok hm
      rw [s_EncodeModel_b2, s_ruleE fu hf hs hok hm, Option.bind_some, app_le (by simp; omega), rulesE_succ hr, List.append_assoc]; rfl)
    rw [if_neg (by simp), s_cellsE hok, Option.bind_some]
    simp only
    have hru0 : rangeL (s_EncodeModel_b2 fu m) m.rules 0 (cellsE m m.sizes.length) = some (.nx (encL2 m)) := by
      rw [show cellsE m m.sizes.length = cellsE m m.sizes.length ++ rulesE m 0 by simp [rulesE], hru]; rfl
    rw [hru0, Option.bind_some]
    simp only [if_true]
    by_cases h : (encL2 m).length > 400
    · rw [if_pos (decide_eq_true (by omega)), if_pos h]
    · rw [if_neg (by simp; omega), if_neg h]
theorem i_enc (fu : Nat) (hf : FU ≤ fu) {m : Model} (hs : smallM m) : i_EncodeModel fu m = some (encM m) := by
  unfold i_EncodeModel encM
  rw [i_model m hs, Option.bind_some]
  cases hok : okModel m with
  | false => rfl
  | true =>
    obtain ⟨h1, hl5, _, h8, _⟩ := okModel_parts hok
    have hcl := cellsE_len m m.sizes.length
    have hru := range_to (b := i_EncodeModel_b2 fu m) (fun n => cellsE m m.sizes.length ++ rulesE m n) m.rules (fun n r hr => by
      have hn := (List.getElem?_eq_some_iff.1 hr).1
      have hm := List.mem_of_getElem? hr
      have l1 := rulesE_len hok n (by omega)
      have l2 := ruleE_len hok hm
      rw [i_EncodeModel_b2, i_ruleE fu hf hok hm, Option.bind_some, app_le (by simp; omega), rulesE_succ hr, List.append_assoc]; rfl)
    rw [if_neg (by simp), i_cellsE fu hf hok, Option.bind_some]
    simp only
    have hru0 : rangeL (i_EncodeModel_b2 fu m) m.rules 0 (cellsE m m.sizes.length) = some (.nx (encL2 m)) := by
      rw [show cellsE m m.sizes.length = cellsE m m.sizes.length ++ rulesE m 0 by simp [rulesE], hru]; rfl
    rw [hru0, Option.bind_some]
    simp only [if_true]
    by_cases h : (encL2 m).length > 400
    · rw [if_pos (decide_eq_true (by omega)), if_pos h]
    · rw [if_neg (by simp; omega), if_neg h]
end Go.L
namespace Go.L
open Go Go.E
set_option linter.unusedVariables false
set_option linter.unusedSimpArgs false
set_option maxRecDepth 100000
theorem mkIntX (xs : List Int) (hl : xs.length ≤ 1048576) (fu : Nat) (hf : FV ≤ fu) (k : Int) (h0 : 0 ≤ k) (hK : k + 1048576 ≤ 9223372036854775806) :
    ∃ k' a', l_markIntS fu xs k = some (k', a') ∧ True ∧ k ≤ k' ∧ k' ≤ k + 1048576 := by
  obtain ⟨a', k', j, e, _, hch, h1, h2⟩ := mark_all (b := l_markIntS_b1) (fun y k k' => True) 1 9223372036854775806 (by omega) xs hl
    (fun a k i x hx _ h0 h1 => ⟨k, k + 1, by
      show (if decide ((i : Int) < (a.length : Int)) then _ else _) = _
      rw [mk_lt hx, if_pos rfl, idx_nat, hx, Option.bind_some, i64_id (n := k + 1) (by omega) (by omega)]; rfl, trivial, by omega, by omega⟩)
    (fun a k i h => by show (if decide ((i : Int) < (a.length : Int)) then _ else _) = _; rw [mk_ge h]; rfl) k fu hf h0 (by omega)
  exact ⟨k', a', by unfold l_markIntS; rw [e]; rfl, trivial, h1, by omega⟩
theorem mkIntXX (xs : List (List Int)) (hl : xs.length ≤ 1048576) (hel : ∀ x ∈ xs, x.length ≤ 1048576) (fu : Nat) (hf : FV ≤ fu) (k : Int) (h0 : 0 ≤ k) (hK : k + 1099511627776 + 1048576 ≤ 9223372036854775806) :
    ∃ k' a', l_markIntSS fu xs k = some (k', a') ∧ k ≤ k' ∧ k' ≤ k + 1099511627776 := by
  obtain ⟨a', k', j, e, _, hch, h1, h2⟩ := mark_all (b := l_markIntSS_b1 fu) (fun y k k' => True) 1048576 (9223372036854775806 - 1048576) (by omega) xs hl
    (fun a k i x hx hm h0 h1 => by
      obtain ⟨k', y, e, _, h2, h3⟩ := mkIntX x (hel x hm) fu hf k h0 (by omega)
      refine ⟨y, k', ?_, trivial, h2, h3⟩
      show (if decide ((i : Int) < (a.length : Int)) then _ else _) = _
      rw [mk_lt hx, if_pos rfl, idx_nat, hx, Option.bind_some, e, Option.bind_some]; rfl)
    (fun a k i h => by show (if decide ((i : Int) < (a.length : Int)) then _ else _) = _; rw [mk_ge h]; rfl) k fu hf h0 (by omega)
  exact ⟨k', a', by unfold l_markIntSS; rw [e]; rfl, h1, by omega⟩
theorem mkRuleX (xs : List Rule) (hl : xs.length ≤ 1048576) (hel : ∀ x ∈ xs, smallR x) (fu : Nat) (hf : FV ≤ fu) (k : Int) (h0 : 0 ≤ k) (hK : k + 1048576 * 1099516870912 ≤ 9000000000000000000) :
    ∃ k' a', l_markRuleS fu xs k = some (k', a') ∧ k ≤ k' ∧ k' ≤ k + 1048576 * 1099516870912 := by
  obtain ⟨a', k', j, e, _, hch, h1, h2⟩ := mark_all (b := l_markRuleS_b1 fu) (fun y k k' => True) 1099516870912 9000000000000000000 (by omega) xs hl
    (fun a k i x hx hm h0 h1 => by
      obtain ⟨s1, s2, s3, s4⟩ := hel x hm
      obtain ⟨k1, y1, e1, _, p1, q1⟩ := mkIntX x.vars s1 fu hf (k + 1) (by omega) (by omega)
      obtain ⟨k2, y2, e2, _, p2, q2⟩ := mkIntX x.coefs s2 fu hf k1 (by omega) (by omega)
      obtain ⟨k3, y3, e3, p3, q3⟩ := mkIntXX x.rows s3 s4 fu hf (k2 + 1) (by omega) (by omega)
      refine ⟨({ kind := k, vars := y1, coefs := y2, bound := k2, rows := y3 } : Rule), k3, ?_, trivial, by omega, by omega⟩
      have hi := (List.getElem?_eq_some_iff.1 hx).1
      show (if decide ((i : Int) < (a.length : Int)) then _ else _) = _
      rw [mk_lt hx, if_pos rfl, idx_nat, hx, Option.bind_some]
      simp only [Int.toNat_natCast, idx_set_self hx, Option.bind_some, i64_id (n := k + 1) (by omega) (by omega), e1, List.set_set, e2, i64_id (n := k2 + 1) (by omega) (by omega), e3])
    (fun a k i h => by show (if decide ((i : Int) < (a.length : Int)) then _ else _) = _; rw [mk_ge h]; rfl) k fu hf h0 (by omega)
  exact ⟨k', a', by unfold l_markRuleS; rw [e]; rfl, h1, by omega⟩
theorem mkModelX (m : Model) (hs : smallM m) (fu : Nat) (hf : FV ≤ fu) (k : Int) (h0 : 0 ≤ k) (hK : k + 1048576 + 1048576 * 1099516870912 ≤ 9000000000000000000) :
    ∃ k' a', l_markModel fu m k = some (k', a') ∧ k ≤ k' ∧ k' ≤ k + 1048576 + 1048576 * 1099516870912 := by
  obtain ⟨k1, y1, e1, _, p1, q1⟩ := mkIntX m.sizes hs.1 fu hf k h0 (by omega)
  obtain ⟨k2, y2, e2, p2, q2⟩ := mkRuleX m.rules hs.2.1 hs.2.2 fu hf k1 (by omega) (by omega)
  exact ⟨k2, _, by unfold l_markModel; rw [e1, Option.bind_some, e2]; rfl, by omega, by omega⟩
theorem clC_small (ls : List Int) : smC (clC ls) := by have := clC_len ls; unfold smC; omega
theorem most_small {vs : List Int} (h : vs.length ≤ 1000) : smC (mostC vs) := by unfold smC mostC; simp; omega
theorem cellsE_small {m : Model} (hok : okModel m = true) : ∀ c ∈ cellsE m m.sizes.length, smC c := by
  intro c hc
  obtain ⟨i, hi, hc⟩ := List.mem_flatMap.1 hc
  rw [List.mem_range] at hi
  have hs := size_ok hok hi
  have hl := varsC_len m i
  unfold cellE at hc
  rcases List.mem_cons.1 hc with rfl | hc
  · exact clC_small _
  · rw [List.mem_singleton] at hc
    subst hc
    exact most_small (by omega)
theorem ruleE_small {m : Model} (hok : okModel m = true) {r : Rule} (hm : r ∈ m.rules) : ∀ c ∈ ruleE m r, smC c := by
  have hl5 := (okModel_parts hok).2.1
  obtain ⟨hv, _, hk⟩ := okRule_parts (okRule_mem hok hm)
  have hl := okVars_len hv
  intro c hc
  unfold ruleE at hc
  split at hc
  · unfold linE at hc
    rw [List.mem_singleton] at hc
    subst hc
    unfold smC normC validC
    split
    · have := normT_len (netF (linT m r r.vars.length)) 12
      simp only; omega
    · simp [zeroC]
  · split at hc
    · have hdiff : ∀ n, ∀ c ∈ diffE m r n, smC c := by
        intro n
        induction n with
        | zero => simp [diffE]
        | succ n ih =>
          intro c hc
          rw [diffE] at hc
          rcases List.mem_append.1 hc with hc | hc
          · exact ih c hc
          · split at hc
            · rw [List.mem_singleton] at hc
              subst hc
              have hd := diffTo_len m r n r.vars.length
              exact most_small (by rw [(sortI_perm _).length_eq]; omega)
            · cases hc
      exact hdiff 4 c hc
    · obtain ⟨vs, hvs, hc⟩ := List.mem_flatMap.1 hc
      unfold forb1 at hc
      split at hc
      · cases hc
      · rw [List.mem_singleton] at hc
        subst hc
        exact clC_small _
theorem encM_small (m : Model) : smCs (encM m).1 := by
  have hz : smCs [] := ⟨by simp, by simp⟩
  unfold encM
  split
  · rename_i hok
    split
    · exact hz
    · refine ⟨by simp only; omega, fun c hc => ?_⟩
      rcases List.mem_append.1 hc with hc | hc
      · exact cellsE_small hok c hc
      · obtain ⟨r, hr, hc⟩ := List.mem_flatMap.1 hc
        exact ruleE_small hok (List.mem_of_mem_take hr) c hc
  · exact hz
theorem FUx : FU ≤ FV := by decide
theorem FnExactEncodeModel_ok (aM : Model) (g0 : gModel aM) : ∃ fu, l_FnExactEncodeModel fu aM = some true := by
  refine ⟨FV, ?_⟩
  unfold l_FnExactEncodeModel
  refine sz_law (szModel aM 1048576 (by omega) (by omega) (lenM_of g0)) (by omega) fun r _ _ hs => ?_
  obtain ⟨k1, a1, e1, u1, v1⟩ := mkModelX aM hs FV (Nat.le_refl _) 1 (by omega) (by omega)
  obtain ⟨k3, a3, e3, f3, u3, v3⟩ := mkCons (encM aM).1 (encM_small aM) FV (Nat.le_refl _) 1 (by omega) (by omega)
  simp only [toModel aM hs, Option.bind_some, s_enc FV FUx hs, i_enc FV FUx hs, eqCons, eqModel, e1, e3, f3]
  have n1 : decide (k1 < 0) = false := by simp; omega
  have n3 : decide (k3 < 0) = false := by simp; omega
  simp [n1, n3]
end Go.L
