/- Trimming: what both sides compute. -/
import Derived.Test.YtiodhgbfceahfaaGreatK37
namespace Go.L
open Go Go.E
set_option linter.unusedVariables false
set_option linter.unusedSimpArgs false
set_option maxRecDepth 100000
def byL (ss : List Step) : List Step := ss.filter fun s => s.kind != 8
def fromL : List Step → Nat → List Int
  | [], _ => []
  | s :: ss, i => if s.kind != 8 then (i : Int) :: fromL ss (i + 1) else fromL ss (i + 1)
theorem fromL_get : ∀ (ss : List Step) (i j : Nat) (s : Step), (byL ss)[j]? = some s → ∃ q : Nat, (fromL ss i)[j]? = some ((i + q : Nat) : Int) ∧ ss[q]? = some s
  | [], i, j, s, h => by simp [byL] at h
  | x :: ss, i, j, s, h => by
    unfold byL at h
    rw [List.filter_cons] at h
    rw [fromL]
    cases hx : (x.kind != 8) with
    | true =>
      rw [hx, if_pos rfl] at h
      rw [if_pos rfl]
      cases j with
      | zero => simp at h; subst h; exact ⟨0, by simp, by simp⟩
      | succ j =>
        obtain ⟨q, h1, h2⟩ := fromL_get ss (i + 1) j s (by simpa [byL] using h)
        exact ⟨q + 1, by rw [List.getElem?_cons_succ, h1, show i + 1 + q = i + (q + 1) by omega], by simpa using h2⟩
    | false =>
      rw [hx, if_neg (by simp)] at h
      rw [if_neg (by simp)]
      obtain ⟨q, h1, h2⟩ := fromL_get ss (i + 1) j s h
      exact ⟨q + 1, by rw [h1, show i + 1 + q = i + (q + 1) by omega], by simpa using h2⟩
theorem fromL_snoc : ∀ (ss : List Step) (s : Step) (i : Nat), fromL (ss ++ [s]) i = fromL ss i ++ (if s.kind != 8 then [((i + ss.length : Nat) : Int)] else [])
  | [], s, i => by simp [fromL]
  | x :: ss, s, i => by
    rw [List.cons_append, fromL, fromL, fromL_snoc ss s (i + 1)]
    have : i + 1 + ss.length = i + (x :: ss).length := by simp; omega
    rw [this]
    cases x.kind != 8 <;> simp
theorem fromL_len (ss : List Step) (i : Nat) : (fromL ss i).length ≤ ss.length := by
  induction ss generalizing i with
  | nil => simp [fromL]
  | cons s ss ih =>
    rw [fromL]
    have := ih (i + 1)
    split <;> simp <;> omega
/-- a step of a valid proof refers to what lies before it -/
structure RefOK (k : Nat) (s : Step) : Prop where
  kind : 1 ≤ s.kind ∧ s.kind ≤ 7
  a : s.kind ≤ 5 → 0 ≤ s.a ∧ s.a < (k : Int)
  b : s.kind = 1 → 0 ≤ s.b ∧ s.b < (k : Int)
theorem parts_kind {s : Step} (h : partsB s = true) : 1 ≤ s.kind ∧ s.kind ≤ 8 := by
  rcases kind_cases s.kind with h | h | h | h | h | h | h | h | ⟨h1, h2, h3, h4, h5, h6, h7, h8⟩
  all_goals first | (rw [h]; omega) | (exfalso; unfold partsB at h; simp [h1, h2, h3, h4, h5, h6, h7, h8] at h)
theorem derive_refs {d : Db} {s : Step} {c : Con} (hp : partsB s = true) (h8 : s.kind ≠ 8) (h : deriveD d s = (c, true)) : RefOK d.list.length s := by
  have hk := parts_kind hp
  have live : ∀ k, liveD d k = true → 0 ≤ k ∧ k < (d.list.length : Int) := fun k hk => by
    unfold liveD at hk
    simp at hk
    exact ⟨hk.1, hk.2.1⟩
  unfold deriveD at h
  refine ⟨by omega, fun h5 => ?_, fun h1 => ?_⟩
  · rw [if_neg (by omega), if_neg (by omega)] at h
    split at h
    · cases h
    · exact live _ (by simpa using ‹¬ liveD d s.a = false›)
  · rw [if_neg (by omega), if_neg (by omega)] at h
    split at h
    · cases h
    · split at h
      · cases h
      · exact live _ (by simpa using ‹¬ liveD d s.b = false›)
theorem run_refs : ∀ (ss : List Step) (d : Db) (i : Nat), (runD d ss i).2 < 0 → (runD d ss i).1.list.length = d.list.length + (byL ss).length ∧ ∀ j s, (byL ss)[j]? = some s → RefOK (d.list.length + j) s
  | [], d, i, _ => ⟨by simp [runD, byL], fun j s h => by simp [byL] at h⟩
  | x :: ss, d, i, h => by
    rw [runD] at h ⊢
    cases he : stepD d x with
    | none => rw [he] at h; simp only at h; omega
    | some d' =>
      rw [he] at h
      simp only at h ⊢
      obtain ⟨h1, h2⟩ := run_refs ss d' (i + 1) h
      unfold stepD at he
      split at he
      · cases he
      rename_i hp
      have hp : partsB x = true := by simpa using hp
      split at he
      · rename_i h8
        split at he
        · cases he
          have e : byL (x :: ss) = byL ss := by unfold byL; rw [List.filter_cons, h8]; rfl
          rw [e]
          exact ⟨h1, h2⟩
        · cases he
      · rename_i h8
        split at he
        · rename_i hok
          cases he
          have e : byL (x :: ss) = x :: byL ss := by
            have : (x.kind != 8) = true := by simpa using h8
            unfold byL; rw [List.filter_cons, this]; rfl
          have hl : (pushD d (deriveD d x).1).list.length = d.list.length + 1 := by simp [pushD]
          rw [e]
          rw [hl] at h1 h2
          refine ⟨by rw [h1]; simp; omega, fun j s hj => ?_⟩
          cases j with
          | zero =>
            simp at hj
            subst hj
            exact derive_refs hp h8 (c := (deriveD d x).1) (by rw [← hok])
          | succ j =>
            have := h2 j s (by simpa using hj)
            rw [show d.list.length + (j + 1) = d.list.length + 1 + j by omega]
            exact this
        · cases he
/-! marking what is needed -/
def markN (s : Step) (k : Nat) (x : List Bool) : List Bool :=
  if s.kind = 1 then (x.set s.a.toNat true).set s.b.toNat true else if s.kind = 7 then List.replicate k true ++ x.drop k else if s.kind = 6 then x else x.set s.a.toNat true
def stepN (n : Nat) (bs : List Step) (j : Nat) (x : List Bool) : List Bool := match bs[j]? with
  | some s => if x.getD (n + j) false then markN s (n + j) x else x
  | none => x
def needG (n : Nat) (bs : List Step) : Nat → List Bool → List Bool
  | 0, x => x
  | j + 1, x => needG n bs j (stepN n bs j x)
theorem markN_len (s : Step) (k : Nat) (x : List Bool) (h : k ≤ x.length) : (markN s k x).length = x.length := by
  unfold markN
  split
  · simp
  split
  · simp; omega
  split
  · rfl
  · simp
theorem stepN_len (n : Nat) (bs : List Step) (j : Nat) (x : List Bool) (h : n + j ≤ x.length) : (stepN n bs j x).length = x.length := by
  unfold stepN
  split
  · split
    · exact markN_len _ _ _ h
    · rfl
  · rfl
theorem fill_loop {τ : Type} {b : Nat → List Bool → Option (Lo (List Bool) τ)} (hb : ∀ i x, b i x = (idx x (i : Int)).bind fun _ => some (.cont (x.set (Int.toNat (i : Int)) true))) (k : Nat) (x : List Bool) (h : k ≤ x.length) :
    countL b k 0 x = some (.nx (List.replicate k true ++ x.drop k)) := by
  have := count_to (b := b) (fun i => List.replicate i true ++ x.drop i) k 0 fun i _ hi => by
    have hil : i < x.length := by omega
    have e : idx (List.replicate i true ++ x.drop i) (i : Int) = some x[i] := by
      rw [idx_nat, List.getElem?_append_right (by simp), List.length_replicate, Nat.sub_self, List.getElem?_drop, Nat.add_zero, List.getElem?_eq_getElem hil]
    rw [hb, e, Option.bind_some, Int.toNat_natCast, List.set_append_right _ _ (by simp), List.length_replicate, Nat.sub_self, List.drop_eq_getElem_cons hil, List.set_cons_zero, List.replicate_succ']
    simp
  simpa using this
theorem s_needs {s : Step} {k : Nat} {x : List Bool} (hr : RefOK k s) (hk : k ≤ x.length) (hb : k ≤ 3000) : s_l4Needs x s (k : Int) = some (markN s k x) := by
  obtain ⟨⟨k1, k7⟩, ha, hb'⟩ := hr
  unfold s_l4Needs markN
  by_cases h1 : s.kind = 1
  · obtain ⟨a0, a1⟩ := ha (by omega)
    obtain ⟨b0, b1⟩ := hb' h1
    rw [idx_b a0 (by omega), Option.bind_some, idx_b (gs := x.set s.a.toNat true) b0 (by rw [List.length_set]; omega)]
    simp [h1]
  · by_cases h7 : s.kind = 7
    · have e : cntF 0 (k : Int) = some k := cntF_nat (by omega)
      rw [e, Option.bind_some, fill_loop (b := s_l4Needs_b1) (fun _ _ => rfl) k x hk]
      simp [h7]
    · by_cases h6 : s.kind = 6
      · simp [h6]
      · obtain ⟨a0, a1⟩ := ha (by omega)
        rw [idx_b a0 (by omega)]
        have : s.kind = 2 ∨ s.kind = 3 ∨ s.kind = 4 ∨ s.kind = 5 := by omega
        rcases this with h | h | h | h <;> simp [h]
theorem need_while {τ : Type} {b : List Bool × Int → Option (Lo (List Bool × Int) τ)} (n : Nat) (bs : List Step) (M : Nat)
    (hb : ∀ j (x : List Bool), j < bs.length → x.length = M → b (x, ((n + j : Nat) : Int)) = some (.cont (stepN n bs j x, ((n + j : Nat) : Int) - 1)))
    (he : ∀ x, b (x, (n : Int) - 1) = some (.brk (x, (n : Int) - 1))) (hM : n + bs.length ≤ M) : ∀ (j fu : Nat) (x : List Bool), j ≤ bs.length → x.length = M → j < fu → whileL b fu (x, ((n + j : Nat) : Int) - 1) = some (.nx (needG n bs j x, (n : Int) - 1))
  | 0, fu, x, _, _, hf => by
    obtain ⟨fu, rfl⟩ : ∃ f, fu = f + 1 := ⟨fu - 1, by omega⟩
    show (b (x, ((n + 0 : Nat) : Int) - 1)).bind _ = _
    rw [show n + 0 = n from rfl, he]
    rfl
  | j + 1, fu, x, hj, hx, hf => by
    obtain ⟨fu, rfl⟩ : ∃ f, fu = f + 1 := ⟨fu - 1, by omega⟩
    show (b (x, ((n + (j + 1) : Nat) : Int) - 1)).bind _ = _
    rw [show ((n + (j + 1) : Nat) : Int) - 1 = ((n + j : Nat) : Int) by omega, hb j x (by omega) hx]
    exact need_while n bs M hb he hM j fu _ (by omega) (by rw [stepN_len _ _ _ _ (by omega), hx]) (by omega)
theorem idx_bool {x : List Bool} {k : Nat} (h : k < x.length) : idx x (k : Int) = some (x.getD k false) := by
  rw [idx_nat, List.getD_eq_getElem?_getD, List.getElem?_eq_getElem h]
  rfl
/-! new numbers -/
def kp (n : Nat) (x : List Bool) (i : Nat) : Bool := decide (i < n) || x.getD i false
def pl (n : Nat) (x : List Bool) (a : Nat) : Nat := (List.range a).countP (kp n x)
theorem pl_succ (n : Nat) (x : List Bool) (a : Nat) : pl n x (a + 1) = pl n x a + if kp n x a then 1 else 0 := by
  unfold pl
  rw [List.range_succ, List.countP_append]
  simp
theorem pl_le (n : Nat) (x : List Bool) : ∀ a, pl n x a ≤ a
  | 0 => Nat.le_refl _
  | a + 1 => by rw [pl_succ]; have := pl_le n x a; split <;> omega
theorem pl_small (n : Nat) (x : List Bool) : ∀ a, a ≤ n → pl n x a = a
  | 0, _ => rfl
  | a + 1, h => by rw [pl_succ, pl_small n x a (by omega), kp, decide_eq_true (by omega)]; rfl
def renS (n : Nat) (x : List Bool) (s : Step) : Step :=
  ⟨s.kind, if s.kind = 6 ∨ s.kind = 7 then s.a else (pl n x s.a.toNat : Int), if s.kind = 1 then (pl n x s.b.toNat : Int) else s.b, s.given⟩
def trimR (n : Nat) (x : List Bool) : List Step → Nat → List Step
  | [], _ => []
  | s :: ss, k => if x.getD k false then renS n x s :: trimR n x ss (k + 1) else trimR n x ss (k + 1)
theorem trimR_snoc (n : Nat) (x : List Bool) : ∀ (ss : List Step) (s : Step) (k : Nat), trimR n x (ss ++ [s]) k = trimR n x ss k ++ (if x.getD (k + ss.length) false then [renS n x s] else [])
  | [], s, k => by rw [List.nil_append, trimR, trimR, trimR]; simp
  | y :: ss, s, k => by
    rw [List.cons_append, trimR, trimR, trimR_snoc n x ss s (k + 1), show k + 1 + ss.length = k + (y :: ss).length by simp; omega]
    cases x.getD k false <;> simp
theorem trimR_len (n : Nat) (x : List Bool) : ∀ (ss : List Step) (k : Nat), (trimR n x ss k).length ≤ ss.length
  | [], k => Nat.le_refl _
  | y :: ss, k => by
    rw [trimR]
    have := trimR_len n x ss (k + 1)
    split <;> simp <;> omega
theorem trimR_pl (n : Nat) (x : List Bool) : ∀ (ss : List Step) (k : Nat), n ≤ k → (trimR n x ss k).length + pl n x k = pl n x (k + ss.length)
  | [], k, _ => by simp [trimR]
  | y :: ss, k, h => by
    rw [trimR]
    have := trimR_pl n x ss (k + 1) (by omega)
    rw [pl_succ] at this
    unfold kp at this
    rw [decide_eq_false (by omega), Bool.false_or] at this
    rw [show k + (y :: ss).length = k + 1 + ss.length by simp; omega]
    cases hx : x.getD k false <;> rw [hx] at this <;> simp at this ⊢ <;> omega
def need0 (list : List Con) (steps : List Step) : List Bool :=
  needG list.length (byL steps) (byL steps).length ((List.replicate (runL list steps).1.list.length false).set (falseAt (runL list steps).1).toNat true)
def trimP (list : List Con) (steps : List Step) : List Step × Bool :=
  if refB list steps then (trimR list.length (need0 list steps) (byL steps) list.length, true) else ([], false)
theorem needG_len (n : Nat) (bs : List Step) : ∀ (j : Nat) (x : List Bool), n + j ≤ x.length → (needG n bs j x).length = x.length
  | 0, _, _ => rfl
  | j + 1, x, h => by rw [needG, needG_len n bs j _ (by rw [stepN_len _ _ _ _ (by omega)]; omega), stepN_len _ _ _ _ (by omega)]
end Go.L
