/- Sizes, copies and comparisons of arguments. -/
import Derived.Test.YteeilbddjlpiaaaK1
import Derived.Test.YteeilbddjlpiaaaD1
namespace Go.L
open Go Go.E
set_option linter.unusedVariables false
/-- what a size check says -/
def SzOk (r left : Int) (good : Prop) : Prop := r < 0 ∨ (0 ≤ r ∧ r ≤ left ∧ good)
theorem sz_len {α : Type} {a : List α} {left : Int} {one : Option Int} (e : one = if decide ((i64 (left - (a.length : Int))) < 0) then (some (-1)) else (some (i64 (left - (a.length : Int))))) (h0 : 0 ≤ left) (h1 : left ≤ 1048576) (ha : a.length ≤ ML) :
    ∃ r, one = some r ∧ SzOk r left (a.length ≤ 1048576) := by
  rw [e]
  unfold ML at ha
  rw [i64_id (by omega) (by omega)]
  by_cases h : left - (a.length : Int) < 0
  · exact ⟨-1, by rw [if_pos (by simpa using h)], .inl (by omega)⟩
  · exact ⟨left - a.length, by rw [if_neg (by simpa using h)], .inr ⟨by omega, by omega, by omega⟩⟩
/-- one size check of a list whose elements have one of their own -/
theorem sz_list {α : Type} {one : α → Int → Option Int} {good : α → Prop} {a : List α} {left : Int} {b : Nat → α → Int → Option (Lo Int Int)} {all : Option Int}
    (e : all = if decide ((i64 (left - (a.length : Int))) < 0) then (some (-1)) else (((rangeL b a 0 (i64 (left - (a.length : Int)))) : Option (Jn Int Int)).bind fun j => match j with | .nx l => (some l) | .out t => some t))
    (hb : ∀ i x l, b i x l = (one x l).bind fun r => if decide (r < 0) then some (.out (-1)) else some (.cont r)) (h0 : 0 ≤ left) (h1 : left ≤ 1048576) (ha : a.length ≤ ML)
    (hone : ∀ x ∈ a, ∀ l, 0 ≤ l → l ≤ 1048576 → ∃ r, one x l = some r ∧ SzOk r l (good x)) :
    ∃ r, all = some r ∧ SzOk r left (a.length ≤ 1048576 ∧ ∀ x ∈ a, good x) := by
  rw [e]
  unfold ML at ha
  rw [i64_id (by omega) (by omega)]
  by_cases h : left - (a.length : Int) < 0
  · exact ⟨-1, by rw [if_pos (by simpa using h)], .inl (by omega)⟩
  · rw [if_neg (by simpa using h)]
    obtain ⟨j, hj, hQ⟩ := range_inv (b := b) a (fun i l => 0 ≤ l ∧ l ≤ left - (a.length : Int) ∧ ∀ x ∈ a.take i, good x)
      (fun j => match j with | .nx l => 0 ≤ l ∧ l ≤ left - (a.length : Int) ∧ ∀ x ∈ a, good x | .out t => t = -1) (fun s hs => by simpa using hs)
      (by
        rintro i x l hx ⟨hl0, hl1, hg⟩
        obtain ⟨r, hr, hok⟩ := hone x (List.mem_of_getElem? hx) l hl0 (by omega)
        rw [hb, hr]
        rcases hok with hn | ⟨p0, p1, p2⟩
        · exact ⟨.out (-1), by simp [hn], rfl⟩
        · refine ⟨.cont r, by simp; omega, p0, by omega, ?_⟩
          intro y hy
          rw [List.take_add_one, hx] at hy
          rcases List.mem_append.1 hy with h | h
          · exact hg y h
          · simp at h; rw [h]; exact p2) (left - a.length) ⟨by omega, by omega, by simp⟩
    rw [hj]
    cases j with
    | nx l => exact ⟨l, rfl, .inr ⟨hQ.1, by have := hQ.2.1; omega, by omega, hQ.2.2⟩⟩
    | out t => exact ⟨t, rfl, .inl (by rw [show t = -1 from hQ]; omega)⟩
theorem sz_end {o : Option Int} {left : Int} {p : Prop} (h : ∃ r, o = some r ∧ SzOk r left p) : ∃ r, (o.bind fun x => if decide (x < 0) then some (-1) else some x) = some r ∧ SzOk r left p := by
  obtain ⟨r, rfl, hok⟩ := h
  rcases hok with hn | ⟨p0, p1, p2⟩
  · exact ⟨-1, by simp [hn], .inl (by omega)⟩
  · exact ⟨r, by rw [Option.bind_some, if_neg (by simp; omega)], .inr ⟨p0, p1, p2⟩⟩
/-- a law's size check: too much, or small -/
theorem sz_law {o : Option Int} {left : Int} {p : Prop} {k : Int → Option Bool} (h : ∃ r, o = some r ∧ SzOk r left p) (h1 : left ≤ 1048576) (hk : ∀ r, 0 ≤ r → r ≤ 1048576 → p → k r = some true) :
    (o.bind fun x => if decide (x < 0) then some true else k x) = some true := by
  obtain ⟨r, rfl, hok⟩ := h
  rcases hok with hn | ⟨p0, p1, p2⟩
  · simp [hn]
  · rw [Option.bind_some, if_neg (by simp; omega)]
    exact hk r p0 (by omega) p2
/-- a copy into a list that was made, element by element -/
theorem copy_list {α : Type} {one : α → Option α} {xs : List α} {z : α} {b : Nat → α → List α → Option (Lo (List α) (List α))} {all : Option (List α)} {k : Jn (List α) (List α) → Option (List α)}
    (e : all = (mkN (xs.length : Int) z).bind fun x1 => (rangeL b xs 0 x1).bind k) (hk : ∀ out, k (.nx out) = some out) (hx : xs.length ≤ 1048576)
    (hb : ∀ i x out, b i x out = (one x).bind fun y => (idx out (i : Int)).bind fun _ => some (.cont (out.set (Int.toNat (i : Int)) y))) (hone : ∀ x ∈ xs, one x = some x) : all = some xs := by
  rw [e, mkN_le z (by omega), Option.bind_some]
  have := range_to (b := b) (fun i => xs.take i ++ List.replicate (xs.length - i) z) xs (by
    intro i x hx
    have hi := (List.getElem?_eq_some_iff.1 hx).1
    rw [hb, hone x (List.mem_of_getElem? hx), Option.bind_some, idx_nat, List.getElem?_append_right (by simp; omega)]
    have hl : (xs.take i).length = i := by simp; omega
    rw [hl, Nat.sub_self, List.getElem?_replicate, if_pos (by omega), Option.bind_some, Int.toNat_natCast]
    congr 2
    rw [List.set_append, if_neg (by rw [hl]; omega), hl, Nat.sub_self, show xs.length - i = (xs.length - (i + 1)) + 1 from by omega, List.replicate_succ, List.set_cons_zero]
    rw [List.take_add_one, hx]
    simp)
  simp only [List.take_zero, List.nil_append, Nat.sub_zero] at this
  rw [this]
  simp [hk]
/-- a list compared with itself, element by element -/
theorem same_list {α : Type} {one : α → α → Option Bool} {xs : List α} {b : Nat → α → Unit → Option (Lo Unit Bool)} {all : Option Bool} {k : Jn Unit Bool → Option Bool}
    (e : all = if ((xs.length : Int) != (xs.length : Int)) then (some false) else ((rangeL b xs 0 ()).bind k)) (hk : k (.nx ()) = some true)
    (hb : ∀ i x, xs[i]? = some x → b i x () = (one x x).bind fun y => if (!y) then some (.out false) else some (.cont ())) (hone : ∀ x ∈ xs, one x x = some true) : all = some true := by
  rw [e, if_neg (by simp)]
  have h := range_all (fun _ => true) false (b := b) xs (fun i x hx => by rw [hb i x hx, hone x (List.mem_of_getElem? hx)]; rfl)
  rw [h]
  simp [hk]
theorem idx_self {α : Type} {xs : List α} {i : Nat} {x : α} (h : xs[i]? = some x) : idx xs (i : Int) = some x := by rw [idx_nat, h]
end Go.L
