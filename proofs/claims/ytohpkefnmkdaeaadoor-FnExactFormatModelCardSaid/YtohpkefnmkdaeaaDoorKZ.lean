/- The plain law: what the functions compute, and that it answers as the statement says. -/
import Derived.Test.YtohpkefnmkdaeaaDoorG10
import Derived.Test.YtohpkefnmkdaeaaDoorD1
import Derived.Lib.ItoaMem
import Derived.Lib.SplitLaws
namespace Go.L
open Go Go.E
set_option linter.unusedVariables false
def FU : Nat := 1000000
def ML : Nat := 9223372036854775807
section
variable {α β σ τ : Type}
theorem idx_nat (xs : List α) (i : Nat) : idx xs (i : Int) = xs[i]? := by
  unfold idx; rw [if_pos (Int.natCast_nonneg i), Int.toNat_natCast]
theorem idx_lt {xs : List α} {i : Nat} (h : i < xs.length) : idx xs (i : Int) = some xs[i] := by rw [idx_nat, List.getElem?_eq_getElem h]
theorem mkN_le {n : Nat} (x : α) (h : n ≤ 4294967296) : mkN (n : Int) x = some (List.replicate n x) := by
  unfold mkN
  rw [if_pos (by omega), Int.toNat_natCast]
theorem sl_pre {xs : List α} {i : Nat} (h : i ≤ xs.length) : sl xs 0 (i : Int) = some (xs.take i) := by
  unfold sl
  rw [if_pos (by omega), Int.toNat_natCast]
  rfl
theorem cntF_nat {n : Nat} (h : n ≤ 4294967296) : cntF 0 (n : Int) = some n := by
  unfold cntF
  rw [if_pos (by omega)]
  congr 1
theorem count_range (b : Nat → σ → Option (Lo σ τ)) : ∀ (n i j : Nat) (s : σ), countL b n i s = rangeL (fun _ k s => b k s) (List.range' i n) j s
  | 0, i, j, s => rfl
  | n + 1, i, j, s => by
    show (b i s).bind _ = rangeL _ (List.range' i (n + 1)) j s
    rw [List.range'_succ]
    show _ = (b i s).bind _
    congr 1
    funext o
    cases o with
    | cont s' => exact count_range b n (i + 1) (j + 1) s'
    | brk s' => rfl
    | out t => rfl
theorem range_to {b : Nat → α → σ → Option (Lo σ τ)} (F : Nat → σ) (xs0 : List α) (h : ∀ i x, xs0[i]? = some x → b i x (F i) = some (.cont (F (i + 1)))) :
    rangeL b xs0 0 (F 0) = some (.nx (F xs0.length)) := by
  have key : ∀ (xs : List α) (i : Nat), xs0.drop i = xs → i ≤ xs0.length → rangeL b xs i (F i) = some (.nx (F xs0.length)) := by
    intro xs
    induction xs with
    | nil =>
      intro i hd hi
      rw [List.drop_eq_nil_iff] at hd
      obtain rfl : i = xs0.length := by omega
      rfl
    | cons x xs ih =>
      intro i hd hi
      have hx := drop_idx hd
      rw [idx_nat] at hx
      show (b i x (F i)).bind _ = _
      rw [h i x hx]
      exact ih (i + 1) (drop_next hd) (List.getElem?_eq_some_iff.1 hx).1
  exact key xs0 0 rfl (Nat.zero_le _)
theorem range_inv {b : Nat → α → σ → Option (Lo σ τ)} (xs0 : List α) (I : Nat → σ → Prop) (Q : Jn σ τ → Prop) (h0 : ∀ s, I xs0.length s → Q (.nx s))
    (h : ∀ i x s, xs0[i]? = some x → I i s → ∃ o, b i x s = some o ∧ (match o with | .cont s' => I (i + 1) s' | .brk s' => Q (.nx s') | .out t => Q (.out t))) (s : σ) (hs : I 0 s) :
    ∃ j, rangeL b xs0 0 s = some j ∧ Q j := by
  have key : ∀ (xs : List α) (i : Nat) (s : σ), xs0.drop i = xs → i ≤ xs0.length → I i s → ∃ j, rangeL b xs i s = some j ∧ Q j := by
    intro xs
    induction xs with
    | nil =>
      intro i s hd hi hI
      rw [List.drop_eq_nil_iff] at hd
      obtain rfl : i = xs0.length := by omega
      exact ⟨_, rfl, h0 s hI⟩
    | cons x xs ih =>
      intro i s hd hi hI
      have hx := drop_idx hd
      rw [idx_nat] at hx
      obtain ⟨o, hb, ho⟩ := h i x s hx hI
      have hl := (List.getElem?_eq_some_iff.1 hx).1
      cases o with
      | cont s' =>
        obtain ⟨j, hj, hQ⟩ := ih (i + 1) s' (drop_next hd) hl ho
        exact ⟨j, by show (b i x s).bind _ = _; rw [hb]; exact hj, hQ⟩
      | brk s' => exact ⟨_, by show (b i x s).bind _ = _; rw [hb]; rfl, ho⟩
      | out t => exact ⟨_, by show (b i x s).bind _ = _; rw [hb]; rfl, ho⟩
  exact key xs0 0 s rfl (Nat.zero_le _) hs
theorem count_inv {b : Nat → σ → Option (Lo σ τ)} (I : Nat → σ → Prop) (Q : Jn σ τ → Prop) : ∀ (n k : Nat) (h0 : ∀ s, I (k + n) s → Q (.nx s))
    (h : ∀ i s, k ≤ i → i < k + n → I i s → ∃ o, b i s = some o ∧ (match o with | .cont s' => I (i + 1) s' | .brk s' => Q (.nx s') | .out t => Q (.out t))) (s : σ) (hs : I k s),
    ∃ j, countL b n k s = some j ∧ Q j
  | 0, k, h0, h, s, hs => ⟨_, rfl, h0 s hs⟩
  | n + 1, k, h0, h, s, hs => by
    obtain ⟨o, hb, ho⟩ := h k s (Nat.le_refl _) (by omega) hs
    cases o with
    | cont s' =>
      obtain ⟨j, hj, hQ⟩ := count_inv I Q n (k + 1) (fun s hs => h0 s (by rwa [show k + (n + 1) = k + 1 + n from by omega])) (fun i s h1 h2 => h i s (by omega) (by omega)) s' ho
      exact ⟨j, by show (b k s).bind _ = _; rw [hb]; exact hj, hQ⟩
    | brk s' => exact ⟨_, by show (b k s).bind _ = _; rw [hb]; rfl, ho⟩
    | out t => exact ⟨_, by show (b k s).bind _ = _; rw [hb]; rfl, ho⟩
theorem while_inv {b : σ → Option (Lo σ τ)} (I : Nat → σ → Prop) (Q : Jn σ τ → Prop)
    (h : ∀ n s, I n s → ∃ o, b s = some o ∧ (match o with | .cont s' => ∃ m, m < n ∧ I m s' | .brk s' => Q (.nx s') | .out t => Q (.out t))) :
    ∀ k n s, I n s → n < k → ∃ j, whileL b k s = some j ∧ Q j := by
  intro k
  induction k with
  | zero => intro n s _ h; omega
  | succ k ih =>
    intro n s hI hk
    obtain ⟨o, hb, ho⟩ := h n s hI
    cases o with
    | cont s' =>
      obtain ⟨m, hm, hI'⟩ := ho
      obtain ⟨j, hj, hQ⟩ := ih m s' hI' (by omega)
      exact ⟨j, by show (b s).bind _ = _; rw [hb]; exact hj, hQ⟩
    | brk s' => exact ⟨_, by show (b s).bind _ = _; rw [hb]; rfl, ho⟩
    | out t => exact ⟨_, by show (b s).bind _ = _; rw [hb]; rfl, ho⟩
def allFrom (q : Nat → α → Bool) : List α → Nat → Bool
  | [], _ => true
  | x :: xs, i => q i x && allFrom q xs (i + 1)
theorem allFrom_const (q : α → Bool) : ∀ (xs : List α) (i : Nat), allFrom (fun _ x => q x) xs i = xs.all q
  | [], _ => rfl
  | x :: xs, i => by rw [allFrom, allFrom_const q xs, List.all_cons]
theorem allFrom_iff (q : Nat → α → Bool) : ∀ (xs : List α) (k : Nat), allFrom q xs k = true ↔ ∀ i x, xs[i]? = some x → q (k + i) x = true
  | [], k => by simp [allFrom]
  | x :: xs, k => by
    rw [allFrom, Bool.and_eq_true, allFrom_iff q xs (k + 1)]
    constructor
    · rintro ⟨h0, h⟩ i y hy
      cases i with
      | zero => simp at hy; subst hy; simpa using h0
      | succ i => have := h i y (by simpa using hy); rwa [show k + 1 + i = k + (i + 1) from by omega] at this
    · intro h
      exact ⟨by simpa using h 0 x rfl, fun i y hy => by have := h (i + 1) y (by simpa using hy); rwa [show k + (i + 1) = k + 1 + i from by omega] at this⟩
theorem range_allI (q : Nat → α → Bool) (t : τ) {b : Nat → α → Unit → Option (Lo Unit τ)} (xs0 : List α)
    (hb : ∀ (i : Nat) (x : α), xs0[i]? = some x → b i x () = some (if q i x then .cont () else .out t)) : rangeL b xs0 0 () = some (if allFrom q xs0 0 then .nx () else .out t) := by
  have key : ∀ (xs : List α) (i : Nat), xs0.drop i = xs → rangeL b xs i () = some (if allFrom q xs i then .nx () else .out t) := by
    intro xs
    induction xs with
    | nil => intro i _; rfl
    | cons x xs ih =>
      intro i h
      have hx := drop_idx h
      rw [idx_nat] at hx
      show (b i x ()).bind _ = _
      rw [hb i x hx]
      cases hq : q i x with
      | true => show rangeL b xs (i + 1) () = _; rw [ih (i + 1) (drop_next h)]; simp [allFrom, hq]
      | false => simp [allFrom, hq]
  exact key xs0 0 rfl
theorem range_all (q : α → Bool) (t : τ) {b : Nat → α → Unit → Option (Lo Unit τ)} (xs0 : List α)
    (hb : ∀ (i : Nat) (x : α), xs0[i]? = some x → b i x () = some (if q x then .cont () else .out t)) : rangeL b xs0 0 () = some (if xs0.all q then .nx () else .out t) := by
  rw [range_allI (fun _ => q) t xs0 hb, allFrom_const]
theorem any_not_all (q : α → Bool) (xs : List α) : xs.any (fun x => !q x) = !xs.all q := by
  induction xs with
  | nil => rfl
  | cons x xs ih => rw [List.any_cons, List.all_cons, ih]; cases q x <;> cases xs.all q <;> rfl
theorem range_index {q : α → Bool} {b : Nat → α → Unit → Option (Lo Unit Int)} (xs0 : List α) (hb : ∀ i x, xs0[i]? = some x → b i x () = some (if q x then .out (i : Int) else .cont ())) :
    ∃ j, rangeL b xs0 0 () = some j ∧ (match j with | .nx _ => xs0.any q = false | .out t => 0 ≤ t ∧ xs0.any q = true) := by
  refine range_inv xs0 (fun i _ => (xs0.take i).any q = false) _ ?_ ?_ () (by simp)
  · intro s h; simpa using h
  · intro i x s hx hI
    have hi := (List.getElem?_eq_some_iff.1 hx).1
    refine ⟨_, hb i x hx, ?_⟩
    cases hq : q x with
    | true => exact ⟨by omega, List.any_eq_true.2 ⟨x, List.mem_of_getElem? hx, hq⟩⟩
    | false =>
      show (xs0.take (i + 1)).any q = false
      rw [List.take_add_one, hx, List.any_append, hI]
      simp [hq]
end
end Go.L
namespace Go.L
open Go Go.E
set_option linter.unusedVariables false
def SzOk (r left : Int) (good : Prop) : Prop := r < 0 ∨ (0 ≤ r ∧ r ≤ left ∧ good)
theorem sz_len {α : Type} {a : List α} {left : Int} {one : Option Int} (e : one = if decide ((i64 (left - (a.length : Int))) < 0) then (some (-1)) else (some (i64 (left - (a.length : Int))))) (h0 : 0 ≤ left) (h1 : left ≤ 1048576) (ha : a.length ≤ ML) :
    ∃ r, one = some r ∧ SzOk r left (a.length ≤ 1048576) := by
  rw [e]
  unfold ML at ha
  rw [i64_id (by omega) (by omega)]
  by_cases h : left - (a.length : Int) < 0
  · exact ⟨-1, by rw [if_pos (by simpa using h)], .inl (by omega)⟩
  · exact ⟨left - a.length, by rw [if_neg (by simpa using h)], .inr ⟨by omega, by omega, by omega⟩⟩
theorem sz_list {α : Type} {one : α → Int → Option Int} {good : α → Prop} {a : List α} {left : Int} {b : Nat → α → Int → Option (Lo Int Int)} {all : Option Int}
    (e : all = if decide ((i64 (left - (a.length : Int))) < 0) then (some (-1)) else (((rangeL b a 0 (i64 (left - (a.length : Int)))) : Option (Jn Int Int)).bind fun j => match j with | .nx l => (some l) | .out t => some t))
    (hb : ∀ i x l, b i x l = (one x l).bind fun r => if decide (r < 0) then some (.out (-1)) else some (.cont r)) (h0 : 0 ≤ left) (h1 : left ≤ 1048576) (ha : a.length ≤ ML)
    (hone : ∀ x ∈ a, ∀ l, 0 ≤ l → l ≤ 1048576 → ∃ r, one x l = some r ∧ SzOk r l (good x)) :
    ∃ r, all = some r ∧ SzOk r left (a.length ≤ 1048576 ∧ ∀ x ∈ a, good x) := by
  rw [e]
  unfold ML at ha
  rw [i64_id (by omega) (by omega)]
  by_cases h : left - (a.length : Int) < 0
  · exact ⟨-1, by rw [if_pos (by simpa using h)], .inl (by omega)⟩
  · rw [if_neg (by simpa using h)]
    obtain ⟨j, hj, hQ⟩ := range_inv (b := b) a (fun i l => 0 ≤ l ∧ l ≤ left - (a.length : Int) ∧ ∀ x ∈ a.take i, good x)
      (fun j => match j with | .nx l => 0 ≤ l ∧ l ≤ left - (a.length : Int) ∧ ∀ x ∈ a, good x | .out t => t = -1) (fun s hs => by simpa using hs)
      (by
        rintro i x l hx ⟨hl0, hl1, hg⟩
        obtain ⟨r, hr, hok⟩ := hone x (List.mem_of_getElem? hx) l hl0 (by omega)
        rw [hb, hr]
        rcases hok with hn | ⟨p0, p1, p2⟩
        · exact ⟨.out (-1), by simp [hn], rfl⟩
        · refine ⟨.cont r, by simp; omega, p0, by omega, ?_⟩
          intro y hy
          rw [List.take_add_one, hx] at hy
          rcases List.mem_append.1 hy with h | h
          · exact hg y h
          · simp at h; rw [h]; exact p2) (left - a.length) ⟨by omega, by omega, by simp⟩
    rw [hj]
    cases j with
    | nx l => exact ⟨l, rfl, .inr ⟨hQ.1, by have := hQ.2.1; omega, by omega, hQ.2.2⟩⟩
    | out t => exact ⟨t, rfl, .inl (by rw [show t = -1 from hQ]; omega)⟩
theorem sz_then {o : Option Int} {k : Int → Option Int} {left : Int} {p q : Prop} (h : ∃ r, o = some r ∧ SzOk r left p) (h1 : left ≤ 1048576)
    (hk : ∀ r, 0 ≤ r → r ≤ 1048576 → ∃ r', k r = some r' ∧ SzOk r' r q) : ∃ r, (o.bind fun x => if decide (x < 0) then some (-1) else k x) = some r ∧ SzOk r left (p ∧ q) := by
  obtain ⟨r, rfl, hok⟩ := h
  rcases hok with hn | ⟨p0, p1, p2⟩
  · exact ⟨-1, by simp [hn], .inl (by omega)⟩
  · obtain ⟨r', hr', hok'⟩ := hk r p0 (by omega)
    refine ⟨r', ?_, ?_⟩
    · rw [Option.bind_some, if_neg (by simp; omega), hr']
    · rcases hok' with hn | ⟨q0, q1, q2⟩
      · exact .inl hn
      · exact .inr ⟨q0, by omega, p2, q2⟩
theorem sz_end {o : Option Int} {left : Int} {p : Prop} (h : ∃ r, o = some r ∧ SzOk r left p) : ∃ r, (o.bind fun x => if decide (x < 0) then some (-1) else some x) = some r ∧ SzOk r left p := by
  obtain ⟨r, rfl, hok⟩ := h
  rcases hok with hn | ⟨p0, p1, p2⟩
  · exact ⟨-1, by simp [hn], .inl (by omega)⟩
  · exact ⟨r, by rw [Option.bind_some, if_neg (by simp; omega)], .inr ⟨p0, p1, p2⟩⟩
theorem sz_law {o : Option Int} {left : Int} {p : Prop} {k : Int → Option Bool} (h : ∃ r, o = some r ∧ SzOk r left p) (h1 : left ≤ 1048576) (hk : ∀ r, 0 ≤ r → r ≤ 1048576 → p → k r = some true) :
    (o.bind fun x => if decide (x < 0) then some true else k x) = some true := by
  obtain ⟨r, rfl, hok⟩ := h
  rcases hok with hn | ⟨p0, p1, p2⟩
  · simp [hn]
  · rw [Option.bind_some, if_neg (by simp; omega)]
    exact hk r p0 (by omega) p2
theorem copy_list {α : Type} {one : α → Option α} {xs : List α} {z : α} {b : Nat → α → List α → Option (Lo (List α) (List α))} {all : Option (List α)} {k : Jn (List α) (List α) → Option (List α)}
    (e : all = (mkN (xs.length : Int) z).bind fun x1 => (rangeL b xs 0 x1).bind k) (hk : ∀ out, k (.nx out) = some out) (hx : xs.length ≤ 1048576)
    (hb : ∀ i x out, b i x out = (one x).bind fun y => (idx out (i : Int)).bind fun _ => some (.cont (out.set (Int.toNat (i : Int)) y))) (hone : ∀ x ∈ xs, one x = some x) : all = some xs := by
  rw [e, mkN_le z (by omega), Option.bind_some]
  have := range_to (b := b) (fun i => xs.take i ++ List.replicate (xs.length - i) z) xs (by
    intro i x hx
    have hi := (List.getElem?_eq_some_iff.1 hx).1
    rw [hb, hone x (List.mem_of_getElem? hx), Option.bind_some, idx_nat, List.getElem?_append_right (by simp; omega)]
    have hl : (xs.take i).length = i := by simp; omega
    rw [hl, Nat.sub_self, List.getElem?_replicate, if_pos (by omega), Option.bind_some, Int.toNat_natCast]
    congr 2
    rw [List.set_append, if_neg (by rw [hl]; omega), hl, Nat.sub_self, show xs.length - i = (xs.length - (i + 1)) + 1 from by omega, List.replicate_succ, List.set_cons_zero]
    rw [List.take_add_one, hx]
    simp)
  simp only [List.take_zero, List.nil_append, Nat.sub_zero] at this
  rw [this]
  simp [hk]
theorem same_list {α : Type} {one : α → α → Option Bool} {xs : List α} {b : Nat → α → Unit → Option (Lo Unit Bool)} {all : Option Bool} {k : Jn Unit Bool → Option Bool}
    (e : all = if ((xs.length : Int) != (xs.length : Int)) then (some false) else ((rangeL b xs 0 ()).bind k)) (hk : k (.nx ()) = some true)
    (hb : ∀ i x, xs[i]? = some x → b i x () = (one x x).bind fun y => if (!y) then some (.out false) else some (.cont ())) (hone : ∀ x ∈ xs, one x x = some true) : all = some true := by
  rw [e, if_neg (by simp)]
  have h := range_all (fun _ => true) false (b := b) xs (fun i x hx => by rw [hb i x hx, hone x (List.mem_of_getElem? hx)]; rfl)
  rw [h]
  simp [hk]
theorem idx_self {α : Type} {xs : List α} {i : Nat} {x : α} (h : xs[i]? = some x) : idx xs (i : Int) = some x := by rw [idx_nat, h]
theorem szIntS (a : List Int) (left : Int) (h0 : 0 ≤ left) (h1 : left ≤ 1048576) (ha : a.length ≤ ML) : ∃ r, l_szIntS a left = some r ∧ SzOk r left (a.length ≤ 1048576) := sz_len rfl h0 h1 ha
theorem szIntSS (a : List (List Int)) (left : Int) (h0 : 0 ≤ left) (h1 : left ≤ 1048576) (ha : a.length ≤ ML) (hel : ∀ x ∈ a, x.length ≤ ML) :
    ∃ r, l_szIntSS a left = some r ∧ SzOk r left (a.length ≤ 1048576 ∧ ∀ x ∈ a, x.length ≤ 1048576) :=
  sz_list (one := l_szIntS) rfl (fun _ _ _ => rfl) h0 h1 ha fun x hx l h0 h1 => szIntS x l h0 h1 (hel x hx)
theorem toIntS (a : List Int) (ha : a.length ≤ 1048576) : l_toIntS a = some a := copy_list (one := some) (b := l_toIntS_b1) (z := 0) rfl (fun _ => rfl) ha (by intros; rfl) fun _ _ => rfl
theorem toIntSS (a : List (List Int)) (ha : a.length ≤ 1048576) (hel : ∀ x ∈ a, x.length ≤ 1048576) : l_toIntSS a = some a :=
  copy_list (one := l_toIntS) (b := l_toIntSS_b1) (z := []) rfl (fun _ => rfl) ha (by intros; rfl) fun x hx => toIntS x (hel x hx)
theorem eqIntS (a : List Int) : l_eqIntS a a = some true :=
  same_list (one := fun x y => some (x == y)) rfl rfl (fun i x hx => by show (idx a (i : Int)).bind _ = _; rw [idx_self hx]; simp) fun _ _ => by simp
theorem eqIntSS (a : List (List Int)) : l_eqIntSS a a = some true :=
  same_list (one := l_eqIntS) rfl rfl (fun i x hx => by show (idx a (i : Int)).bind _ = _; rw [idx_self hx]; rfl) fun x _ => eqIntS x
def lenR (r : Rule) : Prop := r.vars.length ≤ ML ∧ r.coefs.length ≤ ML ∧ r.rows.length ≤ ML ∧ ∀ x ∈ r.rows, x.length ≤ ML
def smallR (r : Rule) : Prop := r.vars.length ≤ 1048576 ∧ r.coefs.length ≤ 1048576 ∧ r.rows.length ≤ 1048576 ∧ ∀ x ∈ r.rows, x.length ≤ 1048576
def lenM (m : Model) : Prop := m.sizes.length ≤ ML ∧ m.rules.length ≤ ML ∧ ∀ r ∈ m.rules, lenR r
def smallM (m : Model) : Prop := m.sizes.length ≤ 1048576 ∧ m.rules.length ≤ 1048576 ∧ ∀ r ∈ m.rules, smallR r
theorem szRule (a : Rule) (left : Int) (h0 : 0 ≤ left) (h1 : left ≤ 1048576) (ha : lenR a) : ∃ r, l_szRule a left = some r ∧ SzOk r left (smallR a) := by
  unfold l_szRule
  obtain ⟨r, e, h⟩ := sz_then (szIntS a.vars left h0 h1 ha.1) h1 fun r p0 p1 => sz_then (szIntS a.coefs r p0 p1 ha.2.1) p1 fun r p0 p1 => sz_end (szIntSS a.rows r p0 p1 ha.2.2.1 ha.2.2.2)
  exact ⟨r, e, h⟩
theorem szRuleS (a : List Rule) (left : Int) (h0 : 0 ≤ left) (h1 : left ≤ 1048576) (ha : a.length ≤ ML) (hel : ∀ x ∈ a, lenR x) :
    ∃ r, l_szRuleS a left = some r ∧ SzOk r left (a.length ≤ 1048576 ∧ ∀ x ∈ a, smallR x) :=
  sz_list (one := l_szRule) rfl (fun _ _ _ => rfl) h0 h1 ha fun x hx l h0 h1 => szRule x l h0 h1 (hel x hx)
theorem szModel (a : Model) (left : Int) (h0 : 0 ≤ left) (h1 : left ≤ 1048576) (ha : lenM a) : ∃ r, l_szModel a left = some r ∧ SzOk r left (smallM a) := by
  unfold l_szModel
  exact sz_then (szIntS a.sizes left h0 h1 ha.1) h1 fun r p0 p1 => sz_end (szRuleS a.rules r p0 p1 ha.2.1 ha.2.2)
theorem toRule (a : Rule) (h : smallR a) : l_toRule a = some a := by
  unfold l_toRule
  rw [toIntS _ h.1, Option.bind_some, toIntS _ h.2.1, Option.bind_some, toIntSS _ h.2.2.1 h.2.2.2]
  rfl
theorem toRuleS (a : List Rule) (ha : a.length ≤ 1048576) (hel : ∀ x ∈ a, smallR x) : l_toRuleS a = some a :=
  copy_list (one := l_toRule) (b := l_toRuleS_b1) (z := { kind := 0, vars := [], coefs := [], bound := 0, rows := [] }) rfl (fun _ => rfl) ha (by intros; rfl) fun x hx => toRule x (hel x hx)
theorem toModel (a : Model) (h : smallM a) : l_toModel a = some a := by
  unfold l_toModel
  rw [toIntS _ h.1, Option.bind_some, toRuleS _ h.2.1 h.2.2]
  rfl
theorem eqRule (a : Rule) : l_eqRule a a = some true := by
  unfold l_eqRule
  simp [eqIntS, eqIntSS]
theorem eqRuleS (a : List Rule) : l_eqRuleS a a = some true :=
  same_list (one := l_eqRule) rfl rfl (fun i x hx => by show (idx a (i : Int)).bind _ = _; rw [idx_self hx]; rfl) fun x _ => eqRule x
theorem eqModel (a : Model) : l_eqModel a a = some true := by
  unfold l_eqModel
  simp [eqIntS, eqRuleS]
theorem lenM_of {m : Model} (h : gModel m) : lenM m := ⟨h.1.1, h.2.1, fun r hr => ⟨(h.2.2 r hr).2.1.1, (h.2.2 r hr).2.2.1.1, (h.2.2 r hr).2.2.2.2.1, fun x hx => ((h.2.2 r hr).2.2.2.2.2 x hx).1⟩⟩
end Go.L
namespace Go.L
open Go Go.E
set_option linter.unusedVariables false
theorem within_eq (n lo hi : Int) : i_within n lo hi = some (decide (lo ≤ n) && decide (n ≤ hi)) := rfl
theorem containsInt (s : List Int) (v : Int) : slices_Contains_int s v = some (s.contains v) := by
  obtain ⟨j, h1, h2⟩ := range_index (q := fun x => v == x) (b := slices_Index_int_b1 v) s (fun i x _ => by show (if _ then _ else _) = _; cases v == x <;> rfl)
  unfold slices_Contains_int slices_Index_int
  rw [h1]
  have hc : s.contains v = s.any (fun x => v == x) := by
    rw [Bool.eq_iff_iff]; simp
  rw [hc]
  cases j with
  | nx u => simp only at h2; rw [h2]; rfl
  | out t => simp only at h2; rw [h2.2]; simp [h2.1]
theorem containsFuncInt (s : List Int) (p : Int → Option Bool) (q : Int → Bool) (hp : ∀ x ∈ s, p x = some (q x)) : slices_ContainsFunc_int s p = some (s.any q) := by
  obtain ⟨j, h1, h2⟩ := range_index (q := q) (b := slices_IndexFunc_int_b1 p) s (fun i x hx => by show (p x).bind _ = _; rw [hp x (List.mem_of_getElem? hx)]; show (if _ then _ else _) = _; cases q x <;> rfl)
  unfold slices_ContainsFunc_int slices_IndexFunc_int
  rw [h1]
  cases j with
  | nx u => simp only at h2; rw [h2]; rfl
  | out t => simp only at h2; rw [h2.2]; simp [h2.1]
theorem containsFuncSint (s : List (List Int)) (p : List Int → Option Bool) (q : List Int → Bool) (hp : ∀ x ∈ s, p x = some (q x)) : slices_ContainsFunc_Sint s p = some (s.any q) := by
  obtain ⟨j, h1, h2⟩ := range_index (q := q) (b := slices_IndexFunc_Sint_b1 p) s (fun i x hx => by show (p x).bind _ = _; rw [hp x (List.mem_of_getElem? hx)]; show (if _ then _ else _) = _; cases q x <;> rfl)
  unfold slices_ContainsFunc_Sint slices_IndexFunc_Sint
  rw [h1]
  cases j with
  | nx u => simp only at h2; rw [h2]; rfl
  | out t => simp only at h2; rw [h2.2]; simp [h2.1]
theorem containsFuncRule (s : List Rule) (p : Rule → Option Bool) (q : Rule → Bool) (hp : ∀ x ∈ s, p x = some (q x)) : slices_ContainsFunc_implRule s p = some (s.any q) := by
  obtain ⟨j, h1, h2⟩ := range_index (q := q) (b := slices_IndexFunc_implRule_b1 p) s (fun i x hx => by show (p x).bind _ = _; rw [hp x (List.mem_of_getElem? hx)]; show (if _ then _ else _) = _; cases q x <;> rfl)
  unfold slices_ContainsFunc_implRule slices_IndexFunc_implRule
  rw [h1]
  cases j with
  | nx u => simp only at h2; rw [h2]; rfl
  | out t => simp only at h2; rw [h2.2]; simp [h2.1]
def gqVars (n : Nat) (xs : List Int) : Nat → Int → Bool := fun i x => decide (0 ≤ x) && decide (x < (n : Int)) && !(xs.take i).contains x
def okVars (n : Nat) (xs : List Int) : Bool := allFrom (gqVars n xs) xs 0
theorem notin_all (xs : List Int) (v : Int) : (!xs.contains v) = xs.all (fun y => !(y == v)) := by
  rw [Bool.eq_iff_iff]
  simp only [Bool.not_eq_true', List.all_eq_true, beq_eq_false_iff_ne, ne_eq]
  constructor
  · intro h y hy e; subst e; simp [hy] at h
  · intro h; simp; intro hv; exact h v hv rfl
theorem count_notin {τ : Type} (xs : List Int) (v : Int) (t : τ) (i : Nat) (hi : i ≤ xs.length) {b : Nat → Unit → Option (Lo Unit τ)}
    (hb : ∀ k, k < i → b k () = (idx xs (k : Int)).bind fun x => if (x == v) then (some (.out t)) else (some (.cont ()))) :
    countL b i 0 () = some (if !(xs.take i).contains v then .nx () else .out t) := by
  obtain ⟨j, hj, hQ⟩ := count_inv (b := b) (fun k _ => (xs.take k).all (fun y => !(y == v)) = true) (fun j => j = if (xs.take i).all (fun y => !(y == v)) then .nx () else .out t) i 0
    (by intro s h; rw [Nat.zero_add] at h; rw [h]; rfl)
    (by
      intro k s _ hk hI
      have hk' : k < xs.length := by omega
      rw [hb k (by omega), idx_lt hk', Option.bind_some]
      cases hx : xs[k] == v with
      | true =>
        refine ⟨.out t, rfl, ?_⟩
        have : (xs.take i).all (fun y => !(y == v)) = false := by
          rw [List.all_eq_false]
          exact ⟨xs[k], List.mem_iff_getElem.2 ⟨k, by simp; omega, by simp⟩, by simpa using hx⟩
        rw [this]; rfl
      | false =>
        refine ⟨.cont (), rfl, ?_⟩
        rw [List.take_add_one, List.getElem?_eq_getElem hk', List.all_append, hI]
        simp [hx]) () rfl
  rw [hj, hQ, notin_all]
theorem s_vars (m : Model) (xs : List Int) (hx : xs.length ≤ 1048576) : s_l6Vars m xs = some (okVars m.sizes.length xs && decide ((xs.length : Int) ≥ 1)) := by
  unfold s_l6Vars
  rw [range_allI (gqVars m.sizes.length xs) false xs]
  · unfold okVars
    cases allFrom (gqVars m.sizes.length xs) xs 0 <;> rfl
  · intro i x hix
    have hi := (List.getElem?_eq_some_iff.1 hix).1
    show (if _ then _ else _) = _
    rw [cntF_nat (by omega), Option.bind_some, count_notin xs x (.out false) i (by omega) fun k hk => rfl]
    unfold gqVars
    have e1 : decide (x < 0) = !decide (0 ≤ x) := by rw [← decide_not, decide_eq_decide]; omega
    have e2 : decide (x ≥ (m.sizes.length : Int)) = !decide (x < (m.sizes.length : Int)) := by rw [← decide_not, decide_eq_decide]; omega
    rw [e1, e2]
    cases decide (0 ≤ x) <;> cases decide (x < (m.sizes.length : Int)) <;> cases (xs.take i).contains x <;> rfl
theorem i_vars (r : Rule) (n : Nat) (hn : n ≤ ML) : rangeL (i_ruleValid_b1 r (n : Int)) r.vars 0 () = some (if okVars n r.vars then .nx () else .out false) := by
  refine range_allI (gqVars n r.vars) false r.vars ?_
  intro i x hxi
  have hi : i < r.vars.length := (List.getElem?_eq_some_iff.1 hxi).1
  show ((i_within x 0 (i64 ((n : Int) - 1))).bind _ : Option (Lo Unit Bool)) = _
  have hn' : (n : Int) ≤ 9223372036854775807 := by unfold ML at hn; omega
  rw [i64_id (by omega) (by omega), within_eq, Option.bind_some, sl_pre (by omega), Option.bind_some, containsInt]
  unfold gqVars
  have e : decide (x ≤ (n : Int) - 1) = decide (x < (n : Int)) := by rw [decide_eq_decide]; omega
  rw [e]
  cases decide (0 ≤ x) <;> cases decide (x < (n : Int)) <;> cases (r.vars.take i).contains x <;> rfl
def qCoef (x : Int) : Bool := decide (-9 ≤ x) && decide (x ≤ 9) && !(x == 0)
theorem s_linear (r : Rule) : s_l6Linear r = some (r.coefs.all qCoef && ((((r.coefs.length : Int) == (r.vars.length : Int)) && decide (r.bound ≥ -1000)) && decide (r.bound ≤ 1000))) := by
  unfold s_l6Linear
  rw [range_all qCoef false r.coefs]
  · cases r.coefs.all qCoef <;> rfl
  · intro i x hix
    show (if _ then _ else _) = _
    unfold qCoef
    have e1 : decide (x < -9) = !decide (-9 ≤ x) := by rw [← decide_not, decide_eq_decide]; omega
    have e2 : decide (x > 9) = !decide (x ≤ 9) := by rw [← decide_not, decide_eq_decide]; omega
    rw [e1, e2]
    cases decide (-9 ≤ x) <;> cases decide (x ≤ 9) <;> cases x == 0 <;> rfl
def qRow (n : Nat) (row : List Int) : Bool := ((row.length : Int) == (n : Int)) && row.all (fun x => decide (0 ≤ x) && decide (x ≤ 3))
theorem count_all {τ α : Type} (q : α → Bool) (xs : List α) (t : τ) {b : Nat → Unit → Option (Lo Unit τ)}
    (hb : ∀ k x, xs[k]? = some x → b k () = some (if q x then .cont () else .out t)) : countL b xs.length 0 () = some (if xs.all q then .nx () else .out t) := by
  rw [count_range b xs.length 0 0]
  have h1 : ∀ (ys : List α) (k j : Nat), xs.drop k = ys → rangeL (fun _ k s => b k s) (List.range' k ys.length) j () = rangeL (fun k _ s => b k s) ys k () := by
    intro ys
    induction ys with
    | nil => intro k j _; rfl
    | cons y ys ih =>
      intro k j hd
      show rangeL _ (List.range' k (ys.length + 1)) j () = _
      rw [List.range'_succ]
      show (b k ()).bind _ = (b k ()).bind _
      congr 1
      funext o
      cases o with
      | cont s => exact ih (k + 1) (j + 1) (drop_next hd)
      | brk s => rfl
      | out t => rfl
  rw [h1 xs 0 0 rfl, range_all q t xs hb]
theorem s_table (r : Rule) (hel : ∀ x ∈ r.rows, x.length ≤ 1048576) : s_l6Table r = some (r.rows.all (qRow r.vars.length) && decide ((r.rows.length : Int) ≤ 8)) := by
  unfold s_l6Table
  rw [range_all (qRow r.vars.length) false r.rows]
  · cases r.rows.all (qRow r.vars.length) <;> rfl
  · intro i row hix
    have hl := hel row (List.mem_of_getElem? hix)
    show (if _ then _ else _) = _
    rw [cntF_nat (by omega), Option.bind_some, count_all (fun x => decide (0 ≤ x) && decide (x ≤ 3)) row (.out false)]
    · unfold qRow bne
      cases (row.length : Int) == (r.vars.length : Int) <;> cases row.all (fun x => decide (0 ≤ x) && decide (x ≤ 3)) <;> rfl
    · intro k x hx
      show (idx row (k : Int)).bind _ = _
      rw [idx_self hx, Option.bind_some]
      have e1 : decide (x < 0) = !decide (0 ≤ x) := by rw [← decide_not, decide_eq_decide]; omega
      have e2 : decide (x > 3) = !decide (x ≤ 3) := by rw [← decide_not, decide_eq_decide]; omega
      rw [e1, e2]
      cases decide (0 ≤ x) <;> cases decide (x ≤ 3) <;> rfl
def okRule (n : Nat) (r : Rule) : Bool :=
  if ((!(okVars n r.vars && decide ((r.vars.length : Int) ≥ 1))) || ((r.kind != 1) && (((r.coefs.length : Int) != 0) || (r.bound != 0)))) || ((r.kind != 3) && ((r.rows.length : Int) != 0)) then false
  else if r.kind == 1 then r.coefs.all qCoef && ((((r.coefs.length : Int) == (r.vars.length : Int)) && decide (r.bound ≥ -1000)) && decide (r.bound ≤ 1000))
  else if r.kind == 2 then true
  else if r.kind == 3 then r.rows.all (qRow r.vars.length) && decide ((r.rows.length : Int) ≤ 8)
  else if r.kind == 4 then ((r.vars.length : Int) == 2) else false
theorem s_rule (m : Model) (r : Rule) (h : smallR r) : s_l6Rule m r = some (okRule m.sizes.length r) := by
  unfold s_l6Rule okRule
  rw [s_vars m r.vars h.1, Option.bind_some, s_linear r, s_table r h.2.2.2]
  simp only [Option.bind_some, apply_ite some]
theorem i_coefs (xs : List Int) : slices_ContainsFunc_int xs i_ruleValid_1 = some (!xs.all qCoef) := by
  rw [← any_not_all]
  refine containsFuncInt xs _ (fun x => !qCoef x) fun x _ => ?_
  unfold i_ruleValid_1 qCoef
  rw [within_eq]
  cases hx : x == 0 <;> cases h1 : decide (-9 ≤ x) <;> cases h2 : decide (x ≤ 9) <;> simp_all
theorem i_rows (r : Rule) : slices_ContainsFunc_Sint r.rows (i_ruleValid_2 r) = some (!r.rows.all (qRow r.vars.length)) := by
  rw [← any_not_all]
  refine containsFuncSint r.rows _ (fun x => !qRow r.vars.length x) fun row _ => ?_
  unfold i_ruleValid_2 qRow
  have e : slices_ContainsFunc_int row i_ruleValid_2_1 = some (!row.all (fun x => decide (0 ≤ x) && decide (x ≤ 3))) := by
    rw [← any_not_all]
    exact containsFuncInt row _ _ fun x _ => rfl
  rw [e]
  unfold bne
  cases (row.length : Int) == (r.vars.length : Int) <;> cases row.all (fun x => decide (0 ≤ x) && decide (x ≤ 3)) <;> rfl
theorem i_rule (r : Rule) (n : Nat) (hn : n ≤ ML) : i_ruleValid r (n : Int) = some (okRule n r) := by
  unfold i_ruleValid okRule
  rw [i_vars r n hn]
  cases hv : okVars n r.vars with
  | false => rfl
  | true =>
    show (if _ then _ else _) = _
    have e0 : ((r.vars.length : Int) == 0) = !decide ((r.vars.length : Int) ≥ 1) := by
      rw [Bool.eq_iff_iff, beq_iff_eq, Bool.not_eq_true', decide_eq_false_iff_not]; omega
    have e1 : decide ((r.coefs.length : Int) > 0) = ((r.coefs.length : Int) != 0) := by
      rw [Bool.eq_iff_iff, decide_eq_true_eq, bne_iff_ne]; omega
    have e2 : decide ((r.rows.length : Int) > 0) = ((r.rows.length : Int) != 0) := by
      rw [Bool.eq_iff_iff, decide_eq_true_eq, bne_iff_ne]; omega
    rw [e0, e1, e2, Bool.true_and]
    generalize (((!decide ((r.vars.length : Int) ≥ 1)) || ((r.kind != 1) && (((r.coefs.length : Int) != 0) || (r.bound != 0)))) || ((r.kind != 3) && ((r.rows.length : Int) != 0))) = c
    cases c with
    | true => rfl
    | false =>
      rw [if_neg Bool.false_ne_true, if_neg Bool.false_ne_true, i_coefs, i_rows, within_eq]
      cases hk1 : r.kind == 1 with
      | true =>
        rw [if_pos rfl, if_pos rfl]
        have e3 : decide (-1000 ≤ r.bound) = decide (r.bound ≥ -1000) := rfl
        rw [e3]
        cases (r.coefs.length : Int) == (r.vars.length : Int) <;> cases decide (r.bound ≥ -1000) <;> cases decide (r.bound ≤ 1000) <;> cases r.coefs.all qCoef <;> rfl
      | false =>
        rw [if_neg Bool.false_ne_true, if_neg Bool.false_ne_true]
        cases hk2 : r.kind == 2 with
        | true =>
          have hk : r.kind = 2 := by simpa using hk2
          rw [hk]; rfl
        | false =>
          rw [if_neg Bool.false_ne_true]
          cases hk3 : r.kind == 3 with
          | true =>
            rw [if_pos rfl, if_pos rfl]
            cases decide ((r.rows.length : Int) ≤ 8) <;> cases r.rows.all (qRow r.vars.length) <;> rfl
          | false =>
            rw [if_neg Bool.false_ne_true, if_neg Bool.false_ne_true]
            cases hk4 : r.kind == 4 with
            | true => rfl
            | false => rfl
def qSize (x : Int) : Bool := decide (0 ≤ x) && decide (x ≤ 3)
def gsum (xs : List Int) : Int := xs.foldl (fun n x => n + x + 1) 0
theorem gsum_next (xs : List Int) (i : Nat) (h : i < xs.length) : gsum (xs.take (i + 1)) = gsum (xs.take i) + xs[i] + 1 := by
  unfold gsum
  rw [List.take_add_one, List.getElem?_eq_getElem h, List.foldl_append]
  rfl
theorem all_next (q : Int → Bool) (xs : List Int) (i : Nat) (h : i < xs.length) : (xs.take (i + 1)).all q = ((xs.take i).all q && q xs[i]) := by
  rw [List.take_add_one, List.getElem?_eq_getElem h, List.all_append]
  simp
theorem all_false (q : Int → Bool) (xs : List Int) (i : Nat) (h : i < xs.length) (hq : q xs[i] = false) : xs.all q = false := by
  rw [List.all_eq_false]
  exact ⟨xs[i], List.getElem_mem h, by simp [hq]⟩
theorem qSize_iff {x : Int} : qSize x = true ↔ 0 ≤ x ∧ x ≤ 3 := by unfold qSize; simp
def okModel (m : Model) : Bool :=
  if (((decide ((m.sizes.length : Int) < 1)) || (decide ((m.sizes.length : Int) > 5))) || (decide (gsum m.sizes > 12))) || (decide ((m.rules.length : Int) > 8)) then false
  else m.sizes.all qSize && m.rules.all (okRule m.sizes.length)
theorem s_sizes (m : Model) (fu : Nat) (hf : FU ≤ fu) : ∃ j, whileL (s_ModelValid_b1 m) fu (0, 0) = some j ∧
    (match j with | .nx s => m.sizes.length ≤ 5 → s.1 = gsum m.sizes ∧ m.sizes.all qSize = true | .out t => t = false ∧ m.sizes.all qSize = false) := by
  refine while_inv (b := s_ModelValid_b1 m) (fun n s => n ≤ 5 ∧ ∃ i : Nat, n = 5 - i ∧ i ≤ m.sizes.length ∧ i ≤ 5 ∧ s.2 = (i : Int) ∧ s.1 = gsum (m.sizes.take i) ∧ (m.sizes.take i).all qSize = true ∧ 0 ≤ s.1 ∧ s.1 ≤ 4 * i)
    (fun j => match j with | .nx s => m.sizes.length ≤ 5 → s.1 = gsum m.sizes ∧ m.sizes.all qSize = true | .out t => t = false ∧ m.sizes.all qSize = false) ?_ fu 5 (0, 0) ⟨by omega, 0, by omega, by omega, by omega, rfl, rfl, rfl, by simp, by simp⟩ (by unfold FU at hf; omega)
  rintro n ⟨k, w⟩ ⟨hn5, i, rfl, hi, hi5, hw, hk, ha, hk0, hk1⟩
  simp only at hw hk hk0 hk1
  subst hw
  by_cases hlt : i < m.sizes.length ∧ i < 5
  · have hbody : s_ModelValid_b1 m (k, (i : Int)) = (if ((decide (m.sizes[i] < 0)) || (decide (m.sizes[i] > 3))) then (some (.out false)) else (some (.cont (i64 ((i64 (k + m.sizes[i])) + 1), i64 ((i : Int) + 1))))) := by
      show (if _ then _ else _) = _
      rw [if_pos (by simp; omega), idx_lt hlt.1]
      rfl
    cases hq : qSize m.sizes[i] with
    | true =>
      have hb := qSize_iff.1 hq
      refine ⟨.cont (k + m.sizes[i] + 1, ((i + 1 : Nat) : Int)), ?_, _, ?_, by omega, i + 1, rfl, hlt.1, hlt.2, rfl, ?_, ?_, ?_, ?_⟩
      · rw [hbody, if_neg (by simp; omega), i64_id (n := (i : Int) + 1) (by omega) (by omega), i64_id (n := k + m.sizes[i]) (by omega) (by omega), i64_id (by omega) (by omega)]
        rfl
      · omega
      · rw [gsum_next _ _ hlt.1, hk]
      · rw [all_next _ _ _ hlt.1, ha, hq]; rfl
      · show 0 ≤ k + m.sizes[i] + 1; omega
      · show k + m.sizes[i] + 1 ≤ 4 * ((i + 1 : Nat) : Int); omega
    | false =>
      refine ⟨.out false, ?_, rfl, all_false _ _ _ hlt.1 hq⟩
      have hnb : ¬ (0 ≤ m.sizes[i] ∧ m.sizes[i] ≤ 3) := fun h => by rw [qSize_iff.2 h] at hq; cases hq
      rw [hbody, if_pos (by simp; omega)]
  · refine ⟨.brk (k, (i : Int)), ?_, fun h5 => ?_⟩
    · show (if _ then _ else _) = _
      rw [if_neg (by simp; omega)]
    · obtain rfl : i = m.sizes.length := by omega
      rw [List.take_length] at hk ha
      exact ⟨hk, ha⟩
theorem s_model (m : Model) (h : smallM m) (fu : Nat) (hf : FU ≤ fu) : s_ModelValid fu m = some (okModel m) := by
  unfold s_ModelValid okModel
  obtain ⟨j, hj, hQ⟩ := s_sizes m fu hf
  rw [hj, Option.bind_some]
  cases j with
  | out t =>
    simp only at hQ
    obtain ⟨rfl, hf⟩ := hQ
    rw [hf, Bool.false_and, ite_self]
  | nx s =>
    obtain ⟨n, i⟩ := s
    by_cases h5 : m.sizes.length ≤ 5
    · obtain ⟨hn, ha⟩ := hQ h5
      simp only at hn
      subst hn
      rw [ha, Bool.true_and]
      have h2 : rangeL (s_ModelValid_b2 m) m.rules 0 () = some (if m.rules.all (okRule m.sizes.length) then .nx () else .out false) := by
        refine range_all _ _ _ fun i r hr => ?_
        show (s_l6Rule m r).bind _ = _
        rw [s_rule m r (h.2.2 r (List.mem_of_getElem? hr)), Option.bind_some]
        cases okRule m.sizes.length r <;> rfl
      simp only [h2, Option.bind_some]
      rw [apply_ite some]
      congr 1
      cases m.rules.all (okRule m.sizes.length) <;> rfl
    · have e : ((((decide ((m.sizes.length : Int) < 1)) || (decide ((m.sizes.length : Int) > 5))) || (decide (gsum m.sizes > 12))) || (decide ((m.rules.length : Int) > 8))) = true := by simp; omega
      have e' : ((((decide ((m.sizes.length : Int) < 1)) || (decide ((m.sizes.length : Int) > 5))) || (decide (n > 12))) || (decide ((m.rules.length : Int) > 8))) = true := by simp; omega
      simp only [e, e', if_true]
theorem i_sizes (m : Model) (h5 : m.sizes.length ≤ 5) : ∃ j, rangeL i_ModelValid_b1 m.sizes 0 0 = some j ∧
    (match j with | .nx s => s = gsum m.sizes ∧ m.sizes.all qSize = true | .out t => t = false ∧ m.sizes.all qSize = false) := by
  refine range_inv m.sizes (fun i c => c = gsum (m.sizes.take i) ∧ (m.sizes.take i).all qSize = true ∧ 0 ≤ c ∧ c ≤ 4 * i)
    (fun j => match j with | .nx s => s = gsum m.sizes ∧ m.sizes.all qSize = true | .out t => t = false ∧ m.sizes.all qSize = false) ?_ ?_ 0 ⟨rfl, rfl, by simp, by simp⟩
  · rintro c ⟨hc, ha, _, _⟩
    rw [List.take_length] at hc ha
    exact ⟨hc, ha⟩
  · rintro i x c hx ⟨hc, ha, h0, h1⟩
    have hi := (List.getElem?_eq_some_iff.1 hx).1
    obtain rfl : m.sizes[i] = x := (List.getElem?_eq_some_iff.1 hx).2
    cases hq : qSize m.sizes[i] with
    | true =>
      have hb := qSize_iff.1 hq
      refine ⟨.cont (c + m.sizes[i] + 1), ?_, by rw [gsum_next _ _ hi, hc], by rw [all_next _ _ _ hi, ha, hq]; rfl, by omega, by omega⟩
      simp only [i_ModelValid_b1, within_eq, Option.bind_some]
      have : (decide (0 ≤ m.sizes[i]) && decide (m.sizes[i] ≤ 3)) = true := hq
      rw [this, if_neg (by simp), i64_id (n := m.sizes[i] + 1) (by omega) (by omega), i64_id (by omega) (by omega)]
      rw [Int.add_assoc]
    | false =>
      refine ⟨.out false, ?_, rfl, all_false _ _ _ hi hq⟩
      simp only [i_ModelValid_b1, within_eq, Option.bind_some]
      have : (decide (0 ≤ m.sizes[i]) && decide (m.sizes[i] ≤ 3)) = false := hq
      rw [this]; rfl
theorem i_model (m : Model) (h : smallM m) : i_ModelValid m = some (okModel m) := by
  unfold i_ModelValid okModel
  rw [within_eq, Option.bind_some]
  by_cases h1 : 1 ≤ m.sizes.length ∧ m.sizes.length ≤ 5 ∧ m.rules.length ≤ 8
  · have e1 : ((!(decide (1 ≤ (m.sizes.length : Int)) && decide ((m.sizes.length : Int) ≤ 5))) || decide ((m.rules.length : Int) > 8)) = false := by
      rw [show decide (1 ≤ (m.sizes.length : Int)) = true from decide_eq_true (by omega), show decide ((m.sizes.length : Int) ≤ 5) = true from decide_eq_true (by omega), show decide ((m.rules.length : Int) > 8) = false from decide_eq_false (by omega)]
      rfl
    rw [e1, if_neg Bool.false_ne_true]
    have e2 : ((((decide ((m.sizes.length : Int) < 1)) || (decide ((m.sizes.length : Int) > 5))) || (decide (gsum m.sizes > 12))) || (decide ((m.rules.length : Int) > 8))) = decide (gsum m.sizes > 12) := by
      rw [show decide ((m.sizes.length : Int) < 1) = false from decide_eq_false (by omega), show decide ((m.sizes.length : Int) > 5) = false from decide_eq_false (by omega), show decide ((m.rules.length : Int) > 8) = false from decide_eq_false (by omega)]
      simp
    rw [e2]
    obtain ⟨j, hj, hQ⟩ := i_sizes m h1.2.1
    rw [hj, Option.bind_some]
    cases j with
    | out t =>
      simp only at hQ
      rw [hQ.1, hQ.2, Bool.false_and, ite_self]
    | nx c =>
      simp only at hQ
      obtain ⟨rfl, ha⟩ := hQ
      rw [ha, Bool.true_and]
      have e3 : slices_ContainsFunc_implRule m.rules (i_ModelValid_1 m) = some (!m.rules.all (okRule m.sizes.length)) := by
        rw [← any_not_all]
        refine containsFuncRule m.rules _ _ fun r hr => ?_
        unfold i_ModelValid_1
        rw [i_rule r _ (by have := h1.2.1; unfold ML; omega)]
        rfl
      have e4 : decide (gsum m.sizes ≤ 12) = !decide (gsum m.sizes > 12) := by rw [← decide_not, decide_eq_decide]; omega
      simp only [e3, e4]
      cases decide (gsum m.sizes > 12) <;> cases m.rules.all (okRule m.sizes.length) <;> rfl
  · have e1 : ((!(decide (1 ≤ (m.sizes.length : Int)) && decide ((m.sizes.length : Int) ≤ 5))) || decide ((m.rules.length : Int) > 8)) = true := by
      simp; omega
    have e2 : ((((decide ((m.sizes.length : Int) < 1)) || (decide ((m.sizes.length : Int) > 5))) || (decide (gsum m.sizes > 12))) || (decide ((m.rules.length : Int) > 8))) = true := by
      simp; omega
    rw [e1, e2, if_pos rfl, if_pos rfl]
theorem okModel_parts {m : Model} (h : okModel m = true) : 1 ≤ m.sizes.length ∧ m.sizes.length ≤ 5 ∧ m.sizes.all qSize = true ∧ m.rules.length ≤ 8 ∧ gsum m.sizes ≤ 12 ∧ m.rules.all (okRule m.sizes.length) = true := by
  unfold okModel at h
  split at h
  · cases h
  · rename_i hc
    simp at hc
    rw [Bool.and_eq_true] at h
    exact ⟨by omega, by omega, h.1, by omega, by omega, h.2⟩
end Go.L
namespace Go.L
open Go Go.E
set_option linter.unusedSimpArgs false
set_option linter.unusedVariables false
theorem bs_size (l : List UInt8) : (bs l).size = l.length := by show l.toArray.size = _; simp
theorem cat_bs {a b : List UInt8} (h : a.length + b.length ≤ 9223372036854775807) : cat (bs a) (bs b) = some (bs (a ++ b)) := by
  unfold cat
  rw [if_pos (by rw [bs_size, bs_size]; exact h)]
  simp only [bs]
  exact congrArg some (ByteArray.ext (by simp))
theorem eq_bs (a b : List UInt8) : (ByteArray.toList (bs a) == ByteArray.toList (bs b)) = (a == b) := by
  simp only [bs, ByteArray.toList_mk]
def dec (n : Nat) : List UInt8 := Go.Lib.decDigits n
theorem dec_small {n : Nat} (h : n < 10) : dec n = [UInt8.ofNat (48 + n)] := Go.Lib.decDigits_one h
theorem dec_big {n : Nat} (h : ¬ n < 10) : dec n = dec (n / 10) ++ [UInt8.ofNat (48 + n % 10)] := by
  unfold dec
  rw [Go.Lib.decDigits, dif_neg h]
theorem dec_len : ∀ (k n : Nat), n < 10 ^ (k + 1) → (dec n).length ≤ k + 1
  | 0, n, h => by rw [dec_small (by simpa using h)]; simp
  | k + 1, n, h => by
    by_cases hn : n < 10
    · rw [dec_small hn]; simp
    · rw [dec_big hn, List.length_append]
      have := dec_len k (n / 10) (by rw [Nat.div_lt_iff_lt_mul (by omega)]; rw [Nat.pow_succ] at h; omega)
      simp; omega
theorem dec_pos (n : Nat) : 1 ≤ (dec n).length := by
  by_cases hn : n < 10
  · rw [dec_small hn]; simp
  · rw [dec_big hn]; simp
theorem dec_len20 {n : Nat} (h : n ≤ 9223372036854775807) : (dec n).length ≤ 19 := dec_len 18 n (by omega)
theorem wrap_u8 {x : Int} (h0 : 0 ≤ x) (h1 : x < 256) : IntKind.u8.wrap x = x := by
  unfold IntKind.wrap IntKind.bits IntKind.signed
  simp
  omega
theorem u8w_nat {m : Nat} (h : m < 256) : u8w (m : Int) = UInt8.ofNat m := by
  unfold u8w
  rw [wrap_u8 (by omega) (by omega)]
  rfl
theorem itoa_nat {n : Nat} (h : n ≤ 9223372036854775807) : strconv_Itoa (n : Int) = some (bs (dec n)) := by
  unfold strconv_Itoa
  rw [if_pos ⟨by omega, by omega⟩, Go.Lib.itoa_nonneg]
  rfl
theorem itoa_of {n : Int} (h0 : 0 ≤ n) (h : n ≤ 9223372036854775807) : strconv_Itoa n = some (bs (dec n.toNat)) := by
  have := itoa_nat (n := n.toNat) (by omega)
  rwa [show ((n.toNat : Nat) : Int) = n by omega] at this
theorem itoa_neg {n : Nat} (h1 : 1 ≤ n) (h : n ≤ 9223372036854775808) : strconv_Itoa (-(n : Int)) = some (bs (45 :: dec n)) := by
  unfold strconv_Itoa
  rw [if_pos ⟨by omega, by omega⟩, Go.Lib.itoa_neg n h1]
  rfl
theorem s_dec_loop (n : Nat) (hn : n ≤ 9223372036854775807) (fu : Nat) (hf : 30 ≤ fu) : ∃ j, whileL s_l17Dec_b1 fu ((n : Int), (⟨#[]⟩ : ByteArray)) = some j ∧ ∃ (m : Nat) (o : List UInt8), j = .nx ((m : Int), bs o) ∧ m < 10 ∧ dec n = dec m ++ o := by
  refine while_inv (fun k s => ∃ (m : Nat) (o : List UInt8), s = ((m : Int), bs o) ∧ m ≤ n ∧ dec n = dec m ++ o ∧ k = (dec m).length) _ ?_ fu (dec n).length _ ⟨n, [], rfl, Nat.le_refl _, by simp, rfl⟩ (by have := dec_len20 hn; omega)
  rintro k s ⟨m, o, rfl, hm, hd, rfl⟩
  unfold s_l17Dec_b1
  by_cases h : m < 10
  · simp only []
    rw [if_neg (by simp only [decide_eq_true_eq]; omega)]
    exact ⟨_, rfl, m, o, rfl, h, hd⟩
  · simp only []
    have hl := dec_len20 hn
    rw [hd, List.length_append] at hl
    have hm1 := dec_pos m
    rw [if_pos (by simp only [decide_eq_true_eq]; omega), show Int.tmod (m : Int) 10 = ((m % 10 : Nat) : Int) from by rw [Int.tmod_eq_emod_of_nonneg (by omega)]; omega,
      show (i64 (48 + ((m % 10 : Nat) : Int))) = ((48 + m % 10 : Nat) : Int) from by rw [i64_id (by omega) (by omega)]; omega, u8w_nat (by omega), cat_bs (by simp; omega), Option.bind_some]
    refine ⟨_, rfl, _, ?_, m / 10, UInt8.ofNat (48 + m % 10) :: o, ?_, by omega, ?_, rfl⟩
    · rw [dec_big h]; simp
    · rw [show Int.tdiv (m : Int) 10 = ((m / 10 : Nat) : Int) from by rw [Int.tdiv_eq_ediv_of_nonneg (by omega)]; omega, i64_id (by omega) (by omega)]
      rfl
    · rw [hd, dec_big h]; simp
theorem s_dec {n : Nat} (hn : n ≤ 9223372036854775807) {fu : Nat} (hf : 30 ≤ fu) : s_l17Dec fu (n : Int) = some (bs (dec n)) := by
  obtain ⟨k, rfl⟩ : ∃ k, fu = k + 1 := ⟨fu - 1, by omega⟩
  unfold s_l17Dec
  show s_l17Dec_F (k + 1) (s_l17Dec_R (k + 1) k) (n : Int) = _
  unfold s_l17Dec_F
  rw [if_neg (by simp only [decide_eq_true_eq]; omega), if_neg (by simp only [decide_eq_true_eq]; omega)]
  obtain ⟨j, hj, m, o, rfl, hm, hd⟩ := s_dec_loop n hn (k + 1) hf
  rw [hj, Option.bind_some]
  have hl := dec_len20 hn
  rw [hd, List.length_append] at hl
  have hm1 := dec_pos m
  show Option.bind (cat (bs [u8w (i64 (48 + (m : Int)))]) (bs o)) _ = _
  rw [show (i64 (48 + (m : Int))) = ((48 + m : Nat) : Int) from by rw [i64_id (by omega) (by omega)]; omega, u8w_nat (by omega), cat_bs (by simp; omega), Option.bind_some, hd, dec_small hm]
theorem s_dec_of {n : Int} (h0 : 0 ≤ n) (h : n ≤ 9223372036854775807) {fu : Nat} (hf : 30 ≤ fu) : s_l17Dec fu n = some (bs (dec n.toNat)) := by
  have := s_dec (n := n.toNat) (by omega) hf
  rwa [show ((n.toNat : Nat) : Int) = n by omega] at this
end Go.L
namespace Go.L
open Go Go.E
set_option linter.unusedSimpArgs false
set_option linter.unusedVariables false
set_option maxRecDepth 100000
theorem md_nodup {n : Nat} {xs : List Int} (h : okVars n xs = true) : xs.Nodup := by
  unfold okVars at h
  rw [allFrom_iff] at h
  unfold List.Nodup
  rw [List.pairwise_iff_getElem]
  intro i j hi hj hij e
  have := h j xs[j] (List.getElem?_eq_getElem hj)
  unfold gqVars at this
  rw [Bool.and_eq_true] at this
  have := this.2
  simp only [Bool.not_eq_true', List.contains_eq_mem, decide_eq_false_iff_not, Nat.zero_add] at this
  exact this (by rw [← e, List.mem_take_iff_getElem]; exact ⟨i, by omega, rfl⟩)
theorem md_range {n : Nat} {xs : List Int} (h : okVars n xs = true) : ∀ x ∈ xs, 0 ≤ x ∧ x < (n : Int) := by
  intro x hx
  unfold okVars at h
  rw [allFrom_iff] at h
  obtain ⟨i, hi, rfl⟩ := List.mem_iff_getElem.1 hx
  have := h i xs[i] (List.getElem?_eq_getElem hi)
  unfold gqVars at this
  simp at this
  omega
theorem md_one {xs : List Int} (h : xs.Nodup) (v : Int) : (xs.filter (· == v)).length ≤ 1 := by
  induction xs with
  | nil => simp
  | cons x xs ih =>
    rw [List.nodup_cons] at h
    rw [List.filter_cons]
    split
    · rename_i e
      have e : x = v := by simpa using e
      subst e
      have : xs.filter (· == x) = [] := by
        rw [List.filter_eq_nil_iff]
        intro y hy
        simp
        intro e
        subst e
        exact h.1 hy
      rw [this]; simp
    · exact ih h.2
theorem md_len : ∀ (n : Nat) (xs : List Int), xs.Nodup → (∀ x ∈ xs, 0 ≤ x ∧ x < (n : Int)) → xs.length ≤ n
  | 0, xs, _, h => by
    cases xs with
    | nil => simp
    | cons x xs => have := h x (by simp); omega
  | n + 1, xs, hn, h => by
    have h1 := md_one hn (n : Int)
    have h2 := md_len n (xs.filter fun x => !(x == (n : Int))) (List.Pairwise.filter _ hn) (by
      intro x hx
      rw [List.mem_filter] at hx
      have := h x hx.1
      have h3 : x ≠ (n : Int) := by simpa using hx.2
      omega)
    have h3 : xs.length = (xs.filter (· == (n : Int))).length + (xs.filter fun x => !(x == (n : Int))).length := by
      have := List.length_eq_countP_add_countP (· == (n : Int)) (l := xs)
      rw [List.countP_eq_length_filter, List.countP_eq_length_filter] at this
      rw [this]
      congr 2
      apply List.filter_congr
      intro x _
      cases x == (n : Int) <;> simp
    omega
def linR (r : Rule) : Prop := r.kind = 1 ∧ (∀ c ∈ r.coefs, -9 ≤ c ∧ c ≤ 9 ∧ c ≠ 0) ∧ r.coefs.length = r.vars.length ∧ -1000 ≤ r.bound ∧ r.bound ≤ 1000 ∧ r.rows = []
def tabR (r : Rule) : Prop := (r.kind = 2 ∨ r.kind = 3 ∨ r.kind = 4) ∧ r.coefs = [] ∧ r.bound = 0 ∧ (r.kind ≠ 3 → r.rows = []) ∧ (∀ row ∈ r.rows, row.length = r.vars.length ∧ ∀ x ∈ row, 0 ≤ x ∧ x ≤ 3) ∧ r.rows.length ≤ 8
theorem rule_facts {n : Nat} (hn : n ≤ 5) {r : Rule} (h : okRule n r = true) : (∀ x ∈ r.vars, 0 ≤ x ∧ x ≤ 4) ∧ r.vars.length ≤ 5 ∧ 1 ≤ r.vars.length ∧ (linR r ∨ tabR r) := by
  unfold okRule at h
  split at h
  · cases h
  rename_i hc
  simp only [Bool.or_eq_true, Bool.and_eq_true, Bool.not_eq_true', bne_iff_ne, ne_eq, not_or, not_and, decide_eq_true_eq, Bool.and_eq_false_iff, Bool.not_eq_false, decide_eq_false_iff_not] at hc
  obtain ⟨⟨⟨h1, h2⟩, h3⟩, h4⟩ := hc
  have hr := md_range h1
  have hl := md_len n _ (md_nodup h1) hr
  refine ⟨fun x hx => by have := hr x hx; omega, by omega, by omega, ?_⟩
  have nil_of : ∀ {α : Type} {xs : List α}, ¬ ¬ ((xs.length : Int) = 0) → xs = [] := fun h => List.length_eq_zero_iff.1 (by omega)
  split at h
  · rename_i hk
    have hk : r.kind = 1 := by simpa using hk
    simp only [Bool.and_eq_true, List.all_eq_true, decide_eq_true_eq, beq_iff_eq] at h
    refine .inl ⟨hk, fun c hc => ?_, by omega, by omega, by omega, nil_of (h4 (by omega))⟩
    have := h.1 c hc
    unfold qCoef at this
    simp at this
    exact ⟨by omega, by omega, this.2⟩
  rename_i hk
  have hk : ¬ r.kind = 1 := by simpa using hk
  have h3 := h3 hk
  have hco : r.coefs = [] := nil_of h3.1
  have hbo : r.bound = 0 := by omega
  refine .inr ?_
  split at h
  · rename_i hk
    have hk : r.kind = 2 := by simpa using hk
    have : r.rows = [] := nil_of (h4 (by omega))
    exact ⟨.inl hk, hco, hbo, fun _ => this, by simp [this], by simp [this]⟩
  split at h
  · rename_i hk
    have hk : r.kind = 3 := by simpa using hk
    simp only [Bool.and_eq_true, List.all_eq_true, decide_eq_true_eq] at h
    refine ⟨.inr (.inl hk), hco, hbo, fun h => absurd hk h, fun row hrow => ?_, by omega⟩
    have := h.1 row hrow
    unfold qRow at this
    simp only [Bool.and_eq_true, beq_iff_eq, List.all_eq_true, decide_eq_true_eq] at this
    exact ⟨by omega, this.2⟩
  split at h
  · rename_i hk
    have hk : r.kind = 4 := by simpa using hk
    have : r.rows = [] := nil_of (h4 (by omega))
    exact ⟨.inr (.inr hk), hco, hbo, fun _ => this, by simp [this], by simp [this]⟩
  · cases h
def digT (xs : List Int) : List UInt8 := xs.flatMap fun x => dec x.toNat
def sgnT (n : Int) : List UInt8 := if n < 0 then 45 :: dec (-n).toNat else dec n.toNat
def pairT (p : Int × Int) : List UInt8 := 32 :: sgnT p.1 ++ 32 :: dec p.2.toNat
def rowT (row : List Int) : List UInt8 := 32 :: digT row
def wordK (k : Int) : List UInt8 := if k = 1 then [108, 105, 110, 101, 97, 114] else if k = 2 then [100, 105, 102, 102, 101, 114, 101, 110, 116] else if k = 3 then [116, 97, 98, 108, 101] else [108, 101, 115, 115]
def linT (r : Rule) : List UInt8 := wordK 1 ++ (r.coefs.zip r.vars).flatMap pairT ++ [32, 62, 61, 32] ++ sgnT r.bound
def ruleT (r : Rule) : List UInt8 := if r.kind = 1 then linT r else wordK r.kind ++ rowT r.vars ++ r.rows.flatMap rowT
def lineT (r : Rule) : List UInt8 := ruleT r ++ [10]
def modelT (m : Model) : List UInt8 := [115, 105, 122, 101, 115, 32] ++ digT m.sizes ++ [10] ++ m.rules.flatMap lineT
def fmtM (m : Model) : List UInt8 := if okModel m then modelT m else []
theorem flat_next {α β : Type} (f : α → List β) {xs : List α} {i : Nat} {x : α} (h : xs[i]? = some x) : (xs.take (i + 1)).flatMap f = (xs.take i).flatMap f ++ f x := by
  rw [List.take_add_one, h, Option.toList_some, List.flatMap_append]
  simp
theorem flat_len {α β : Type} (f : α → List β) (c : Nat) : ∀ {xs : List α}, (∀ x ∈ xs, (f x).length ≤ c) → (xs.flatMap f).length ≤ c * xs.length
  | [], _ => by simp
  | x :: xs, h => by
    have h1 := h x (by simp)
    have h2 := flat_len f c (xs := xs) fun y hy => h y (by simp [hy])
    rw [List.flatMap_cons, List.length_append, List.length_cons, Nat.mul_succ]
    omega
theorem flat_len_take {α β : Type} (f : α → List β) (c : Nat) {xs : List α} (h : ∀ x ∈ xs, (f x).length ≤ c) (i : Nat) : ((xs.take i).flatMap f).length ≤ c * xs.length := by
  have h1 := flat_len f c (xs := xs.take i) fun x hx => h x (List.mem_of_mem_take hx)
  have h2 : (xs.take i).length ≤ xs.length := by rw [List.length_take]; omega
  exact Nat.le_trans h1 (Nat.mul_le_mul_left c h2)
theorem dec1 {x : Int} (h : 0 ≤ x ∧ x ≤ 9) : (dec x.toNat).length = 1 := by rw [dec_small (by omega)]; rfl
theorem digT_len {xs : List Int} (h : ∀ x ∈ xs, 0 ≤ x ∧ x ≤ 9) : (digT xs).length ≤ xs.length := by
  have := flat_len (fun x : Int => dec x.toNat) 1 (xs := xs) fun x hx => by rw [dec1 (h x hx)]; exact Nat.le_refl _
  unfold digT
  omega
theorem sgnT_len {n : Int} (h : -1000 ≤ n ∧ n ≤ 1000) : (sgnT n).length ≤ 5 := by
  unfold sgnT
  split
  · have := dec_len 3 (-n).toNat (by omega); simp only [List.length_cons]; omega
  · have := dec_len 3 n.toNat (by omega); omega
theorem itoa_sgn {n : Int} (h : -1000 ≤ n ∧ n ≤ 1000) : strconv_Itoa n = some (bs (sgnT n)) := by
  unfold sgnT
  split
  · have := itoa_neg (n := (-n).toNat) (by omega) (by omega)
    rwa [show -(((-n).toNat : Nat) : Int) = n by omega] at this
  · exact itoa_of (by omega) (by omega)
theorem s_signed {n : Int} (h : -1000 ≤ n ∧ n ≤ 1000) {fu : Nat} (hf : 30 ≤ fu) : s_l6Signed fu n = some (bs (sgnT n)) := by
  unfold s_l6Signed sgnT
  split
  · rename_i hl
    have hl := of_decide_eq_true hl
    have := dec_len 3 (-n).toNat (by omega)
    rw [i64_id (by omega) (by omega), s_dec_of (by omega) (by omega) hf, Option.bind_some, show (⟨#[45]⟩ : ByteArray) = bs [45] from rfl, cat_bs (by simp only [List.length_cons, List.length_nil]; omega), if_pos hl]
    rfl
  · rename_i hl
    have hl : ¬ n < 0 := by simpa using hl
    rw [s_dec_of (by omega) (by omega) hf, if_neg hl]
    rfl
theorem i_digs {xs : List Int} (h : ∀ x ∈ xs, 0 ≤ x ∧ x ≤ 9) (hl : xs.length ≤ 1048576) : i_digits xs = some (bs (digT xs)) := by
  unfold i_digits
  have hloop := range_to (b := i_digits_b1) (fun i => bs (digT (xs.take i))) xs fun i x hx => by
    have hxx := h x (List.mem_of_getElem? hx)
    have h1 := flat_len_take (fun x : Int => dec x.toNat) 1 (xs := xs) (fun x hx => by rw [dec1 (h x hx)]; exact Nat.le_refl _) i
    have h2 := dec1 hxx
    unfold i_digits_b1 digT
    rw [itoa_of hxx.1 (by omega), Option.bind_some, cat_bs (by omega), Option.bind_some, flat_next (fun x : Int => dec x.toNat) hx]
  rw [show (⟨#[]⟩ : ByteArray) = bs (digT (xs.take 0)) from rfl, hloop, Option.bind_some]
  simp only [List.take_length]
theorem s_digs {xs : List Int} (h : ∀ x ∈ xs, 0 ≤ x ∧ x ≤ 9) (hl : xs.length ≤ 1048576) {fu : Nat} (hf : 30 ≤ fu) : s_l6Digits fu xs = some (bs (digT xs)) := by
  unfold s_l6Digits
  have hloop := range_to (b := s_l6Digits_b1 fu) (fun i => bs (digT (xs.take i))) xs fun i x hx => by
    have hxx := h x (List.mem_of_getElem? hx)
    have h1 := flat_len_take (fun x : Int => dec x.toNat) 1 (xs := xs) (fun x hx => by rw [dec1 (h x hx)]; exact Nat.le_refl _) i
    have h2 := dec1 hxx
    unfold s_l6Digits_b1 digT
    rw [s_dec_of hxx.1 (by omega) hf, Option.bind_some, cat_bs (by omega), Option.bind_some, flat_next (fun x : Int => dec x.toNat) hx]
  rw [show (⟨#[]⟩ : ByteArray) = bs (digT (xs.take 0)) from rfl, hloop, Option.bind_some]
  simp only [List.take_length]
theorem zip_at {α β : Type} {xs : List α} {ys : List β} (h : xs.length = ys.length) {i : Nat} {y : β} (hy : ys[i]? = some y) : ∃ x, xs[i]? = some x ∧ (xs.zip ys)[i]? = some (x, y) := by
  have hi : i < ys.length := (List.getElem?_eq_some_iff.1 hy).1
  refine ⟨xs[i], List.getElem?_eq_getElem (by omega), ?_⟩
  rw [List.getElem?_zip_eq_some]
  exact ⟨List.getElem?_eq_getElem (by omega), hy⟩
section rule
variable {r : Rule} (hv : ∀ x ∈ r.vars, 0 ≤ x ∧ x ≤ 4) (hl : r.vars.length ≤ 5)
include hv
theorem pairT_len (h : linR r) : ∀ p ∈ r.coefs.zip r.vars, (pairT p).length ≤ 8 := by
  rintro ⟨c, v⟩ hp
  have h1 := h.2.1 c (List.of_mem_zip hp).1
  have h2 := dec1 (x := v) (by have := hv v (List.of_mem_zip hp).2; omega)
  have h3 := sgnT_len (n := c) (by omega)
  unfold pairT
  simp only [List.length_append, List.length_cons]
  omega
include hl
omit hv in
theorem zip_len (h : linR r) : (r.coefs.zip r.vars).length ≤ 5 := by rw [List.length_zip]; omega
theorem linT_len (h : linR r) : (linT r).length ≤ 60 := by
  have h1 := flat_len pairT 8 (pairT_len hv h)
  have h2 := zip_len hl h
  have h3 := sgnT_len (n := r.bound) ⟨h.2.2.2.1, h.2.2.2.2.1⟩
  unfold linT wordK
  simp only [List.length_append, List.length_cons, List.length_nil, if_true]
  omega
theorem i_lin (h : linR r) : i_Rule_text r = some (bs (linT r)) := by
  have hz := zip_len hl h
  have hloop := range_to (b := i_Rule_text_b1 r) (fun i => bs (wordK 1 ++ ((r.coefs.zip r.vars).take i).flatMap pairT)) r.vars fun i v hvi => by
    obtain ⟨c, hc, hz⟩ := zip_at h.2.2.1 hvi
    have hcc := h.2.1 c (List.mem_of_getElem? hc)
    have hvv := hv v (List.mem_of_getElem? hvi)
    have h1 := flat_len_take pairT 8 (pairT_len hv h) i
    have h2 := dec1 (x := v) (by omega)
    have h3 := sgnT_len (n := c) (by omega)
    have h4 : (wordK 1).length = 6 := rfl
    unfold i_Rule_text_b1
    rw [idx_nat, hc, Option.bind_some, itoa_sgn (by omega), Option.bind_some, show (⟨#[32]⟩ : ByteArray) = bs [32] from rfl, cat_bs (by simp only [List.length_cons, List.length_nil]; omega), Option.bind_some,
      cat_bs (by simp only [List.length_append, List.length_cons, List.length_nil]; omega), Option.bind_some, itoa_of (by omega) (by omega), Option.bind_some, cat_bs (by simp only [List.length_append, List.length_cons, List.length_nil]; omega), Option.bind_some,
      cat_bs (by simp only [List.length_append, List.length_cons, List.length_nil]; omega), Option.bind_some, flat_next pairT hz]
    unfold pairT
    simp only [List.append_assoc, List.cons_append, List.nil_append]
  have h1 := flat_len pairT 8 (pairT_len hv h)
  have h3 := sgnT_len (n := r.bound) ⟨h.2.2.2.1, h.2.2.2.2.1⟩
  have h4 : (wordK 1).length = 6 := rfl
  have hzl : r.vars.length = (r.coefs.zip r.vars).length := by rw [List.length_zip, h.2.2.1, Nat.min_self]
  unfold i_Rule_text i_ruleWords
  rw [Option.bind_some, h.1, show idx _ (1 : Int) = some (bs (wordK 1 ++ ((r.coefs.zip r.vars).take 0).flatMap pairT)) from rfl, Option.bind_some, if_pos (by decide), hloop, Option.bind_some]
  simp only []
  rw [hzl, List.take_length, show (⟨#[32, 62, 61, 32]⟩ : ByteArray) = bs [32, 62, 61, 32] from rfl, cat_bs (by simp only [List.length_append, List.length_cons, List.length_nil]; omega), Option.bind_some, itoa_sgn ⟨h.2.2.2.1, h.2.2.2.2.1⟩, Option.bind_some,
    cat_bs (by simp only [List.length_append, List.length_cons, List.length_nil]; omega)]
  rfl
theorem s_lin (h : linR r) {fu : Nat} (hf : 30 ≤ fu) : s_l6Line fu r = some (bs (linT r ++ [10])) := by
  have hz := zip_len hl h
  have hloop := range_to (b := s_l6Line_b1 fu r) (fun i => bs (wordK 1 ++ ((r.coefs.zip r.vars).take i).flatMap pairT)) r.vars fun i v hvi => by
    obtain ⟨c, hc, hz⟩ := zip_at h.2.2.1 hvi
    have hcc := h.2.1 c (List.mem_of_getElem? hc)
    have hvv := hv v (List.mem_of_getElem? hvi)
    have h1 := flat_len_take pairT 8 (pairT_len hv h) i
    have h2 := dec1 (x := v) (by omega)
    have h3 := sgnT_len (n := c) (by omega)
    have h4 : (wordK 1).length = 6 := rfl
    unfold s_l6Line_b1
    simp only []
    rw [show (⟨#[32]⟩ : ByteArray) = bs [32] from rfl, cat_bs (by simp only [List.length_append, List.length_cons, List.length_nil]; omega), Option.bind_some, idx_nat, hc, Option.bind_some, s_signed (by omega) hf, Option.bind_some,
      cat_bs (by simp only [List.length_append, List.length_cons, List.length_nil]; omega), Option.bind_some, cat_bs (by simp only [List.length_append, List.length_cons, List.length_nil]; omega), Option.bind_some, s_dec_of (by omega) (by omega) hf, Option.bind_some,
      cat_bs (by simp only [List.length_append, List.length_cons, List.length_nil]; omega), Option.bind_some, flat_next pairT hz]
    unfold pairT
    simp only [List.append_assoc, List.cons_append, List.nil_append]
  have h1 := flat_len pairT 8 (pairT_len hv h)
  have h3 := sgnT_len (n := r.bound) ⟨h.2.2.2.1, h.2.2.2.2.1⟩
  have h4 : (wordK 1).length = 6 := rfl
  have hzl : r.vars.length = (r.coefs.zip r.vars).length := by rw [List.length_zip, h.2.2.1, Nat.min_self]
  unfold s_l6Line
  rw [if_pos (by simp [h.1]), show (⟨#[108, 105, 110, 101, 97, 114]⟩ : ByteArray) = bs (wordK 1 ++ ((r.coefs.zip r.vars).take 0).flatMap pairT) from rfl, hloop, Option.bind_some]
  simp only []
  rw [hzl, List.take_length, show (⟨#[32, 62, 61, 32]⟩ : ByteArray) = bs [32, 62, 61, 32] from rfl, cat_bs (by simp only [List.length_append, List.length_cons, List.length_nil]; omega), Option.bind_some, s_signed ⟨h.2.2.2.1, h.2.2.2.2.1⟩ hf, Option.bind_some,
    cat_bs (by simp only [List.length_append, List.length_cons, List.length_nil]; omega), Option.bind_some, show (⟨#[10]⟩ : ByteArray) = bs [10] from rfl, cat_bs (by simp only [List.length_append, List.length_cons, List.length_nil]; omega)]
  rfl
omit hv in
theorem rowsT_len (h : tabR r) : ∀ row ∈ r.rows, (rowT row).length ≤ 6 := by
  intro row hrow
  obtain ⟨h1, h2⟩ := h.2.2.2.2.1 row hrow
  have := digT_len (xs := row) fun x hx => by have := h2 x hx; omega
  unfold rowT
  simp only [List.length_cons]
  omega
theorem i_tab (h : tabR r) : i_Rule_text r = some (bs (wordK r.kind ++ rowT r.vars ++ r.rows.flatMap rowT)) := by
  have hw : (wordK r.kind).length ≤ 9 := by rcases h.1 with e | e | e <;> rw [e] <;> decide
  have hd := digT_len (xs := r.vars) fun x hx => by have := hv x hx; omega
  have hr := h.2.2.2.2.2
  have hloop := range_to (b := i_Rule_text_b2) (fun i => bs (wordK r.kind ++ rowT r.vars ++ (r.rows.take i).flatMap rowT)) r.rows fun i row hri => by
    have hm := List.mem_of_getElem? hri
    obtain ⟨e1, e2⟩ := h.2.2.2.2.1 row hm
    have h1 := flat_len_take rowT 6 (rowsT_len hl h) i
    have h2 := digT_len (xs := row) fun x hx => by have := e2 x hx; omega
    unfold i_Rule_text_b2
    rw [i_digs (fun x hx => by have := e2 x hx; omega) (by omega), Option.bind_some, show (⟨#[32]⟩ : ByteArray) = bs [32] from rfl, cat_bs (by simp only [List.length_cons, List.length_nil]; omega), Option.bind_some,
      cat_bs (by unfold rowT; simp only [List.length_append, List.length_cons, List.length_nil]; unfold rowT at h1; omega), Option.bind_some, flat_next rowT hri]
    unfold rowT
    simp only [List.append_assoc, List.cons_append, List.nil_append]
  unfold i_Rule_text i_ruleWords
  rw [Option.bind_some, show idx _ r.kind = some (bs (wordK r.kind)) from by rcases h.1 with e | e | e <;> rw [e] <;> rfl, Option.bind_some, if_neg (by simp only [beq_iff_eq]; have := h.1; omega), i_digs (fun x hx => by have := hv x hx; omega) (by omega), Option.bind_some,
    show (⟨#[32]⟩ : ByteArray) = bs [32] from rfl, cat_bs (by simp only [List.length_cons, List.length_nil]; omega), Option.bind_some, cat_bs (by simp only [List.length_append, List.length_cons, List.length_nil]; omega), Option.bind_some,
    show bs (wordK r.kind ++ ([32] ++ digT r.vars)) = bs (wordK r.kind ++ rowT r.vars ++ (r.rows.take 0).flatMap rowT) from by simp [rowT], hloop, Option.bind_some]
  simp only [List.take_length]
theorem s_tab (h : tabR r) {fu : Nat} (hf : 30 ≤ fu) : s_l6Line fu r = some (bs (wordK r.kind ++ rowT r.vars ++ r.rows.flatMap rowT ++ [10])) := by
  have hd := digT_len (xs := r.vars) fun x hx => by have := hv x hx; omega
  have hr := h.2.2.2.2.2
  unfold s_l6Line
  rw [if_neg (by simp only [beq_iff_eq]; have := h.1; omega)]
  rcases h.1 with e | e | e
  · have hn := h.2.2.2.1 (by omega)
    rw [if_pos (by simp [e]), s_digs (fun x hx => by have := hv x hx; omega) (by omega) hf, Option.bind_some, show (⟨#[100, 105, 102, 102, 101, 114, 101, 110, 116, 32]⟩ : ByteArray) = bs [100, 105, 102, 102, 101, 114, 101, 110, 116, 32] from rfl,
      cat_bs (by simp only [List.length_cons, List.length_nil]; omega), Option.bind_some, show (⟨#[10]⟩ : ByteArray) = bs [10] from rfl, cat_bs (by simp only [List.length_append, List.length_cons, List.length_nil]; omega), Option.bind_some, hn, e]
    unfold wordK rowT
    simp
  · rw [if_neg (by simp [e]), if_neg (by simp [e])]
    have hloop := range_to (b := s_l6Line_b2 fu) (fun i => bs (wordK r.kind ++ rowT r.vars ++ (r.rows.take i).flatMap rowT)) r.rows fun i row hri => by
      have hm := List.mem_of_getElem? hri
      obtain ⟨e1, e2⟩ := h.2.2.2.2.1 row hm
      have h1 := flat_len_take rowT 6 (rowsT_len hl h) i
      have h2 := digT_len (xs := row) fun x hx => by have := e2 x hx; omega
      have hw : (wordK r.kind).length ≤ 9 := by rw [e]; decide
      unfold s_l6Line_b2
      simp only []
      rw [show (⟨#[32]⟩ : ByteArray) = bs [32] from rfl, cat_bs (by unfold rowT; simp only [List.length_append, List.length_cons, List.length_nil]; unfold rowT at h1; omega), Option.bind_some, s_digs (fun x hx => by have := e2 x hx; omega) (by omega) hf, Option.bind_some,
        cat_bs (by unfold rowT; simp only [List.length_append, List.length_cons, List.length_nil]; unfold rowT at h1; omega), Option.bind_some, flat_next rowT hri]
      unfold rowT
      simp only [List.append_assoc, List.cons_append, List.nil_append]
    have h1 := flat_len rowT 6 (rowsT_len hl h)
    rw [s_digs (fun x hx => by have := hv x hx; omega) (by omega) hf, Option.bind_some, show (⟨#[116, 97, 98, 108, 101, 32]⟩ : ByteArray) = bs [116, 97, 98, 108, 101, 32] from rfl, cat_bs (by simp only [List.length_cons, List.length_nil]; omega), Option.bind_some,
      show bs ([116, 97, 98, 108, 101, 32] ++ digT r.vars) = bs (wordK r.kind ++ rowT r.vars ++ (r.rows.take 0).flatMap rowT) from by rw [e]; simp [rowT, wordK], hloop, Option.bind_some]
    have hw : (wordK r.kind).length ≤ 9 := by rw [e]; decide
    simp only [List.take_length]
    rw [show (⟨#[10]⟩ : ByteArray) = bs [10] from rfl, cat_bs (by unfold rowT; simp only [List.length_append, List.length_cons, List.length_nil]; unfold rowT at h1; omega)]
    rfl
  · have hn := h.2.2.2.1 (by omega)
    rw [if_neg (by simp [e]), if_pos (by simp [e]), s_digs (fun x hx => by have := hv x hx; omega) (by omega) hf, Option.bind_some, show (⟨#[108, 101, 115, 115, 32]⟩ : ByteArray) = bs [108, 101, 115, 115, 32] from rfl,
      cat_bs (by simp only [List.length_cons, List.length_nil]; omega), Option.bind_some, show (⟨#[10]⟩ : ByteArray) = bs [10] from rfl, cat_bs (by simp only [List.length_append, List.length_cons, List.length_nil]; omega), Option.bind_some, hn, e]
    unfold wordK rowT
    simp
end rule
theorem ruleT_lin {r : Rule} (h : linR r) : ruleT r = linT r := by unfold ruleT; rw [if_pos h.1]
theorem ruleT_tab {r : Rule} (h : tabR r) : ruleT r = wordK r.kind ++ rowT r.vars ++ r.rows.flatMap rowT := by unfold ruleT; rw [if_neg (by have := h.1; omega)]
section ok
variable {n : Nat} (hn : n ≤ 5) {r : Rule} (h : okRule n r = true)
include hn h
theorem i_ruleT : i_Rule_text r = some (bs (ruleT r)) := by
  obtain ⟨h1, h2, h3, h | h⟩ := rule_facts hn h
  · rw [ruleT_lin h]; exact i_lin h1 h2 h
  · rw [ruleT_tab h]; exact i_tab h1 h2 h
theorem s_ruleT {fu : Nat} (hf : 30 ≤ fu) : s_l6Line fu r = some (bs (lineT r)) := by
  unfold lineT
  obtain ⟨h1, h2, h3, h | h⟩ := rule_facts hn h
  · rw [ruleT_lin h]; exact s_lin h1 h2 h hf
  · rw [ruleT_tab h]; exact s_tab h1 h2 h hf
theorem lineT_len : (lineT r).length ≤ 80 := by
  unfold lineT
  obtain ⟨h1, h2, h3, h | h⟩ := rule_facts hn h
  · rw [ruleT_lin h]
    have := linT_len h1 h2 h
    simp only [List.length_append, List.length_cons, List.length_nil]
    omega
  · rw [ruleT_tab h]
    have h4 := flat_len rowT 6 (rowsT_len h2 h)
    have h5 := h.2.2.2.2.2
    have hw : (wordK r.kind).length ≤ 9 := by rcases h.1 with e | e | e <;> rw [e] <;> decide
    have hd := digT_len (xs := r.vars) fun x hx => by have := h1 x hx; omega
    have hro : (rowT r.vars).length = (digT r.vars).length + 1 := rfl
    simp only [List.length_append, List.length_cons, List.length_nil]
    omega
end ok
theorem model_facts {m : Model} (h : okModel m = true) : 1 ≤ m.sizes.length ∧ m.sizes.length ≤ 5 ∧ (∀ x ∈ m.sizes, 0 ≤ x ∧ x ≤ 3) ∧ m.rules.length ≤ 8 ∧ ∀ r ∈ m.rules, okRule m.sizes.length r = true := by
  obtain ⟨h1, h2, h3, h4, h5, h6⟩ := okModel_parts h
  exact ⟨h1, h2, fun x hx => qSize_iff.1 (List.all_eq_true.1 h3 x hx), h4, fun r hr => List.all_eq_true.1 h6 r hr⟩
theorem i_fmtM (m : Model) (hs : smallM m) : i_FormatModel m = some (bs (fmtM m)) := by
  unfold i_FormatModel fmtM
  rw [i_model m hs, Option.bind_some]
  cases h : okModel m with
  | false => rfl
  | true =>
    obtain ⟨h1, h2, h3, h4, h5⟩ := model_facts h
    have h7 := digT_len (xs := m.sizes) fun x hx => by have := h3 x hx; omega
    simp only [Bool.not_true, Bool.false_eq_true, if_false, if_true]
    unfold i_formatModel
    have hloop := range_to (b := i_formatModel_b1) (fun i => bs ([115, 105, 122, 101, 115, 32] ++ digT m.sizes ++ [10] ++ (m.rules.take i).flatMap lineT)) m.rules fun i r hri => by
      have hm := List.mem_of_getElem? hri
      have e1 := flat_len_take lineT 80 (fun r hr => lineT_len h2 (h5 r hr)) i
      have e2 := lineT_len h2 (h5 r hm)
      have e3 : (lineT r).length = (ruleT r).length + 1 := by simp [lineT]
      unfold i_formatModel_b1
      rw [i_ruleT h2 (h5 r hm), Option.bind_some, show (⟨#[10]⟩ : ByteArray) = bs [10] from rfl, cat_bs (by simp only [List.length_cons, List.length_nil]; omega), Option.bind_some,
        cat_bs (by simp only [List.length_append, List.length_cons, List.length_nil]; omega), Option.bind_some, flat_next lineT hri]
      simp only [List.append_assoc, lineT]
    rw [i_digs (fun x hx => by have := h3 x hx; omega) (by omega), Option.bind_some, show (⟨#[115, 105, 122, 101, 115, 32]⟩ : ByteArray) = bs [115, 105, 122, 101, 115, 32] from rfl, cat_bs (by simp only [List.length_cons, List.length_nil]; omega), Option.bind_some,
      show (⟨#[10]⟩ : ByteArray) = bs [10] from rfl, cat_bs (by simp only [List.length_append, List.length_cons, List.length_nil]; omega), Option.bind_some,
      show bs ([115, 105, 122, 101, 115, 32] ++ digT m.sizes ++ [10]) = bs ([115, 105, 122, 101, 115, 32] ++ digT m.sizes ++ [10] ++ (m.rules.take 0).flatMap lineT) from by simp, hloop, Option.bind_some]
    simp only [List.take_length, Option.bind_some]
    rfl
theorem s_fmtM (m : Model) (hs : smallM m) {fu : Nat} (hf : FU ≤ fu) : s_FormatModel fu m = some (bs (fmtM m)) := by
  have hf3 : 30 ≤ fu := by unfold FU at hf; omega
  unfold s_FormatModel fmtM
  rw [s_model m hs fu hf, Option.bind_some]
  cases h : okModel m with
  | false => rfl
  | true =>
    obtain ⟨h1, h2, h3, h4, h5⟩ := model_facts h
    have h7 := digT_len (xs := m.sizes) fun x hx => by have := h3 x hx; omega
    simp only [Bool.not_true, Bool.false_eq_true, if_false, if_true]
    have hloop := range_to (b := s_FormatModel_b1 fu) (fun i => bs ([115, 105, 122, 101, 115, 32] ++ digT m.sizes ++ [10] ++ (m.rules.take i).flatMap lineT)) m.rules fun i r hri => by
      have hm := List.mem_of_getElem? hri
      have e1 := flat_len_take lineT 80 (fun r hr => lineT_len h2 (h5 r hr)) i
      have e2 := lineT_len h2 (h5 r hm)
      unfold s_FormatModel_b1
      rw [s_ruleT h2 (h5 r hm) hf3, Option.bind_some, cat_bs (by simp only [List.length_append, List.length_cons, List.length_nil]; omega), Option.bind_some, flat_next lineT hri]
      simp only [List.append_assoc]
    rw [s_digs (fun x hx => by have := h3 x hx; omega) (by omega) hf3, Option.bind_some, show (⟨#[115, 105, 122, 101, 115, 32]⟩ : ByteArray) = bs [115, 105, 122, 101, 115, 32] from rfl, cat_bs (by simp only [List.length_cons, List.length_nil]; omega), Option.bind_some,
      show (⟨#[10]⟩ : ByteArray) = bs [10] from rfl, cat_bs (by simp only [List.length_append, List.length_cons, List.length_nil]; omega), Option.bind_some,
      show bs ([115, 105, 122, 101, 115, 32] ++ digT m.sizes ++ [10]) = bs ([115, 105, 122, 101, 115, 32] ++ digT m.sizes ++ [10] ++ (m.rules.take 0).flatMap lineT) from by simp, hloop, Option.bind_some]
    simp only [List.take_length, Option.bind_some]
    rfl
end Go.L
namespace Go.L
open Go Go.E
set_option linter.unusedSimpArgs false
set_option linter.unusedVariables false
theorem FnExactFormatModel_ok (aM : Model) (g0 : gModel aM) : ∃ fu, l_FnExactFormatModel fu aM = some true := by
  refine ⟨FU, ?_⟩
  unfold l_FnExactFormatModel
  refine sz_law (szModel aM 1048576 (by omega) (by omega) (lenM_of g0)) (by omega) fun r _ _ hs => ?_
  simp only [toModel aM hs, Option.bind_some, s_fmtM aM hs (Nat.le_refl FU), i_fmtM aM hs, eqModel, eq_bs]
  simp
end Go.L
