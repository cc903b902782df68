/- Sizes, copies and comparisons of arguments: integers, bools, rules, models. -/
import Derived.Test.YtcjjfneofcpmfaaK1
import Derived.Test.YtcjjfneofcpmfaaD1
namespace Go.L
open Go Go.E
set_option linter.unusedVariables false

/-- what a size check says -/
def SzOk (r left : Int) (good : Prop) : Prop := r < 0 ∨ (0 ≤ r ∧ r ≤ left ∧ good)
theorem szOk_imp {r left : Int} {p q : Prop} (h : SzOk r left p) (hi : p → q) : SzOk r left q := h.imp id fun ⟨a, b, c⟩ => ⟨a, b, hi c⟩
theorem sz_len {α : Type} {a : List α} {left : Int} {one : Option Int} (e : one = if decide ((i64 (left - (a.length : Int))) < 0) then (some (-1)) else (some (i64 (left - (a.length : Int))))) (h0 : 0 ≤ left) (h1 : left ≤ 1048576) (ha : a.length ≤ ML) :
    ∃ r, one = some r ∧ SzOk r left (a.length ≤ 1048576) := by
  rw [e]
  unfold ML at ha
  rw [i64_id (by omega) (by omega)]
  by_cases h : left - (a.length : Int) < 0
  · exact ⟨-1, by rw [if_pos (by simpa using h)], .inl (by omega)⟩
  · exact ⟨left - a.length, by rw [if_neg (by simpa using h)], .inr ⟨by omega, by omega, by omega⟩⟩
/-- one size check of a list whose elements have one of their own -/
theorem sz_list {α : Type} {one : α → Int → Option Int} {good : α → Prop} {a : List α} {left : Int} {b : Nat → α → Int → Option (Lo Int Int)} {all : Option Int}
    (e : all = if decide ((i64 (left - (a.length : Int))) < 0) then (some (-1)) else (((rangeL b a 0 (i64 (left - (a.length : Int)))) : Option (Jn Int Int)).bind fun j => match j with | .nx l => (some l) | .out t => some t))
    (hb : ∀ i x l, b i x l = (one x l).bind fun r => if decide (r < 0) then some (.out (-1)) else some (.cont r)) (h0 : 0 ≤ left) (h1 : left ≤ 1048576) (ha : a.length ≤ ML)
    (hone : ∀ x ∈ a, ∀ l, 0 ≤ l → l ≤ 1048576 → ∃ r, one x l = some r ∧ SzOk r l (good x)) :
    ∃ r, all = some r ∧ SzOk r left (a.length ≤ 1048576 ∧ ∀ x ∈ a, good x) := by
  rw [e]
  unfold ML at ha
  rw [i64_id (by omega) (by omega)]
  by_cases h : left - (a.length : Int) < 0
  · exact ⟨-1, by rw [if_pos (by simpa using h)], .inl (by omega)⟩
  · rw [if_neg (by simpa using h)]
    obtain ⟨j, hj, hQ⟩ := range_inv (b := b) a (fun i l => 0 ≤ l ∧ l ≤ left - (a.length : Int) ∧ ∀ x ∈ a.take i, good x)
      (fun j => match j with | .nx l => 0 ≤ l ∧ l ≤ left - (a.length : Int) ∧ ∀ x ∈ a, good x | .out t => t = -1) (fun s hs => by simpa using hs)
      (by
        rintro i x l hx ⟨hl0, hl1, hg⟩
        obtain ⟨r, hr, hok⟩ := hone x (List.mem_of_getElem? hx) l hl0 (by omega)
        rw [hb, hr]
        rcases hok with hn | ⟨p0, p1, p2⟩
        · exact ⟨.out (-1), by simp [hn], rfl⟩
        · refine ⟨.cont r, by simp; omega, p0, by omega, ?_⟩
          intro y hy
          rw [List.take_add_one, hx] at hy
          rcases List.mem_append.1 hy with h | h
          · exact hg y h
          · simp at h; rw [h]; exact p2) (left - a.length) ⟨by omega, by omega, by simp⟩
    rw [hj]
    cases j with
    | nx l => exact ⟨l, rfl, .inr ⟨hQ.1, by have := hQ.2.1; omega, by omega, hQ.2.2⟩⟩
    | out t => exact ⟨t, rfl, .inl (by rw [show t = -1 from hQ]; omega)⟩
/-- sizes one after the other -/
theorem sz_then {o : Option Int} {k : Int → Option Int} {left : Int} {p q : Prop} (h : ∃ r, o = some r ∧ SzOk r left p) (h1 : left ≤ 1048576)
    (hk : ∀ r, 0 ≤ r → r ≤ 1048576 → ∃ r', k r = some r' ∧ SzOk r' r q) : ∃ r, (o.bind fun x => if decide (x < 0) then some (-1) else k x) = some r ∧ SzOk r left (p ∧ q) := by
  obtain ⟨r, rfl, hok⟩ := h
  rcases hok with hn | ⟨p0, p1, p2⟩
  · exact ⟨-1, by simp [hn], .inl (by omega)⟩
  · obtain ⟨r', hr', hok'⟩ := hk r p0 (by omega)
    refine ⟨r', ?_, ?_⟩
    · rw [Option.bind_some, if_neg (by simp; omega), hr']
    · rcases hok' with hn | ⟨q0, q1, q2⟩
      · exact .inl hn
      · exact .inr ⟨q0, by omega, p2, q2⟩
theorem sz_end {o : Option Int} {left : Int} {p : Prop} (h : ∃ r, o = some r ∧ SzOk r left p) : ∃ r, (o.bind fun x => if decide (x < 0) then some (-1) else some x) = some r ∧ SzOk r left p := by
  obtain ⟨r, rfl, hok⟩ := h
  rcases hok with hn | ⟨p0, p1, p2⟩
  · exact ⟨-1, by simp [hn], .inl (by omega)⟩
  · exact ⟨r, by rw [Option.bind_some, if_neg (by simp; omega)], .inr ⟨p0, p1, p2⟩⟩
/-- a law's size check: too much, or small -/
theorem sz_law {o : Option Int} {left : Int} {p : Prop} {k : Int → Option Bool} (h : ∃ r, o = some r ∧ SzOk r left p) (h1 : left ≤ 1048576) (hk : ∀ r, 0 ≤ r → r ≤ 1048576 → p → k r = some true) :
    (o.bind fun x => if decide (x < 0) then some true else k x) = some true := by
  obtain ⟨r, rfl, hok⟩ := h
  rcases hok with hn | ⟨p0, p1, p2⟩
  · simp [hn]
  · rw [Option.bind_some, if_neg (by simp; omega)]
    exact hk r p0 (by omega) p2
/-- a copy into a list that was made, element by element -/
theorem copy_list {α : Type} {one : α → Option α} {xs : List α} {z : α} {b : Nat → α → List α → Option (Lo (List α) (List α))} {all : Option (List α)} {k : Jn (List α) (List α) → Option (List α)}
    (e : all = (mkN (xs.length : Int) z).bind fun x1 => (rangeL b xs 0 x1).bind k) (hk : ∀ out, k (.nx out) = some out) (hx : xs.length ≤ 1048576)
    (hb : ∀ i x out, b i x out = (one x).bind fun y => (idx out (i : Int)).bind fun _ => some (.cont (out.set (Int.toNat (i : Int)) y))) (hone : ∀ x ∈ xs, one x = some x) : all = some xs := by
  rw [e, mkN_le z (by omega), Option.bind_some]
  have := range_to (b := b) (fun i => xs.take i ++ List.replicate (xs.length - i) z) xs (by
    intro i x hx
    have hi := (List.getElem?_eq_some_iff.1 hx).1
    rw [hb, hone x (List.mem_of_getElem? hx), Option.bind_some, idx_nat, List.getElem?_append_right (by simp; omega)]
    have hl : (xs.take i).length = i := by simp; omega
    rw [hl, Nat.sub_self, List.getElem?_replicate, if_pos (by omega), Option.bind_some, Int.toNat_natCast]
    congr 2
    rw [List.set_append, if_neg (by rw [hl]; omega), hl, Nat.sub_self, show xs.length - i = (xs.length - (i + 1)) + 1 from by omega, List.replicate_succ, List.set_cons_zero]
    rw [List.take_add_one, hx]
    simp)
  simp only [List.take_zero, List.nil_append, Nat.sub_zero] at this
  rw [this]
  simp [hk]
/-- a list compared with itself, element by element -/
theorem same_list {α : Type} {one : α → α → Option Bool} {xs : List α} {b : Nat → α → Unit → Option (Lo Unit Bool)} {all : Option Bool} {k : Jn Unit Bool → Option Bool}
    (e : all = if ((xs.length : Int) != (xs.length : Int)) then (some false) else ((rangeL b xs 0 ()).bind k)) (hk : k (.nx ()) = some true)
    (hb : ∀ i x, xs[i]? = some x → b i x () = (one x x).bind fun y => if (!y) then some (.out false) else some (.cont ())) (hone : ∀ x ∈ xs, one x x = some true) : all = some true := by
  rw [e, if_neg (by simp)]
  have h := range_all (fun _ => true) false (b := b) xs (fun i x hx => by rw [hb i x hx, hone x (List.mem_of_getElem? hx)]; rfl)
  rw [h]
  simp [hk]
theorem idx_self {α : Type} {xs : List α} {i : Nat} {x : α} (h : xs[i]? = some x) : idx xs (i : Int) = some x := by rw [idx_nat, h]
/-! integers -/
theorem szIntS (a : List Int) (left : Int) (h0 : 0 ≤ left) (h1 : left ≤ 1048576) (ha : a.length ≤ ML) : ∃ r, l_szIntS a left = some r ∧ SzOk r left (a.length ≤ 1048576) := sz_len rfl h0 h1 ha
theorem szIntSS (a : List (List Int)) (left : Int) (h0 : 0 ≤ left) (h1 : left ≤ 1048576) (ha : a.length ≤ ML) (hel : ∀ x ∈ a, x.length ≤ ML) :
    ∃ r, l_szIntSS a left = some r ∧ SzOk r left (a.length ≤ 1048576 ∧ ∀ x ∈ a, x.length ≤ 1048576) :=
  sz_list (one := l_szIntS) rfl (fun _ _ _ => rfl) h0 h1 ha fun x hx l h0 h1 => szIntS x l h0 h1 (hel x hx)
theorem toIntS (a : List Int) (ha : a.length ≤ 1048576) : l_toIntS a = some a := copy_list (one := some) (b := l_toIntS_b1) (z := 0) rfl (fun _ => rfl) ha (by intros; rfl) fun _ _ => rfl
theorem toIntSS (a : List (List Int)) (ha : a.length ≤ 1048576) (hel : ∀ x ∈ a, x.length ≤ 1048576) : l_toIntSS a = some a :=
  copy_list (one := l_toIntS) (b := l_toIntSS_b1) (z := []) rfl (fun _ => rfl) ha (by intros; rfl) fun x hx => toIntS x (hel x hx)
theorem eqIntS (a : List Int) : l_eqIntS a a = some true :=
  same_list (one := fun x y => some (x == y)) rfl rfl (fun i x hx => by show (idx a (i : Int)).bind _ = _; rw [idx_self hx]; simp) fun _ _ => by simp
theorem eqIntSS (a : List (List Int)) : l_eqIntSS a a = some true :=
  same_list (one := l_eqIntS) rfl rfl (fun i x hx => by show (idx a (i : Int)).bind _ = _; rw [idx_self hx]; rfl) fun x _ => eqIntS x
/-! rules and models -/
def lenR (r : Rule) : Prop := r.vars.length ≤ ML ∧ r.coefs.length ≤ ML ∧ r.rows.length ≤ ML ∧ ∀ x ∈ r.rows, x.length ≤ ML
def smallR (r : Rule) : Prop := r.vars.length ≤ 1048576 ∧ r.coefs.length ≤ 1048576 ∧ r.rows.length ≤ 1048576 ∧ ∀ x ∈ r.rows, x.length ≤ 1048576
def lenM (m : Model) : Prop := m.sizes.length ≤ ML ∧ m.rules.length ≤ ML ∧ ∀ r ∈ m.rules, lenR r
def smallM (m : Model) : Prop := m.sizes.length ≤ 1048576 ∧ m.rules.length ≤ 1048576 ∧ ∀ r ∈ m.rules, smallR r
theorem szRule (a : Rule) (left : Int) (h0 : 0 ≤ left) (h1 : left ≤ 1048576) (ha : lenR a) : ∃ r, l_szRule a left = some r ∧ SzOk r left (smallR a) := by
  unfold l_szRule
  obtain ⟨r, e, h⟩ := sz_then (szIntS a.vars left h0 h1 ha.1) h1 fun r p0 p1 => sz_then (szIntS a.coefs r p0 p1 ha.2.1) p1 fun r p0 p1 => sz_end (szIntSS a.rows r p0 p1 ha.2.2.1 ha.2.2.2)
  exact ⟨r, e, h⟩
theorem szRuleS (a : List Rule) (left : Int) (h0 : 0 ≤ left) (h1 : left ≤ 1048576) (ha : a.length ≤ ML) (hel : ∀ x ∈ a, lenR x) :
    ∃ r, l_szRuleS a left = some r ∧ SzOk r left (a.length ≤ 1048576 ∧ ∀ x ∈ a, smallR x) :=
  sz_list (one := l_szRule) rfl (fun _ _ _ => rfl) h0 h1 ha fun x hx l h0 h1 => szRule x l h0 h1 (hel x hx)
theorem szModel (a : Model) (left : Int) (h0 : 0 ≤ left) (h1 : left ≤ 1048576) (ha : lenM a) : ∃ r, l_szModel a left = some r ∧ SzOk r left (smallM a) := by
  unfold l_szModel
  exact sz_then (szIntS a.sizes left h0 h1 ha.1) h1 fun r p0 p1 => sz_end (szRuleS a.rules r p0 p1 ha.2.1 ha.2.2)
theorem toRule (a : Rule) (h : smallR a) : l_toRule a = some a := by
  unfold l_toRule
  rw [toIntS _ h.1, Option.bind_some, toIntS _ h.2.1, Option.bind_some, toIntSS _ h.2.2.1 h.2.2.2]
  rfl
theorem toRuleS (a : List Rule) (ha : a.length ≤ 1048576) (hel : ∀ x ∈ a, smallR x) : l_toRuleS a = some a :=
  copy_list (one := l_toRule) (b := l_toRuleS_b1) (z := { kind := 0, vars := [], coefs := [], bound := 0, rows := [] }) rfl (fun _ => rfl) ha (by intros; rfl) fun x hx => toRule x (hel x hx)
theorem toModel (a : Model) (h : smallM a) : l_toModel a = some a := by
  unfold l_toModel
  rw [toIntS _ h.1, Option.bind_some, toRuleS _ h.2.1 h.2.2]
  rfl
theorem eqRule (a : Rule) : l_eqRule a a = some true := by
  unfold l_eqRule
  simp [eqIntS, eqIntSS]
theorem eqRuleS (a : List Rule) : l_eqRuleS a a = some true :=
  same_list (one := l_eqRule) rfl rfl (fun i x hx => by show (idx a (i : Int)).bind _ = _; rw [idx_self hx]; rfl) fun x _ => eqRule x
theorem eqModel (a : Model) : l_eqModel a a = some true := by
  unfold l_eqModel
  simp [eqIntS, eqRuleS]
theorem lenM_of {m : Model} (h : gModel m) : lenM m := ⟨h.1.1, h.2.1, fun r hr => ⟨(h.2.2 r hr).2.1.1, (h.2.2 r hr).2.2.1.1, (h.2.2 r hr).2.2.2.2.1, fun x hx => ((h.2.2 r hr).2.2.2.2.2 x hx).1⟩⟩
theorem lenR_small {r : Rule} (h : smallR r) : lenR r := by unfold smallR at h; unfold lenR ML; exact ⟨by omega, by omega, by omega, fun x hx => by have := h.2.2.2 x hx; omega⟩
theorem lenM_small {m : Model} (h : smallM m) : lenM m := ⟨by have := h.1; unfold ML; omega, by have := h.2.1; unfold ML; omega, fun r hr => lenR_small (h.2.2 r hr)⟩
end Go.L
