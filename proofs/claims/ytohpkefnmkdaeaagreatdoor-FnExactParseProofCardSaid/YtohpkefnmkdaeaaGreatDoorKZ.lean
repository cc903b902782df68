/- The plain law: what the functions compute, and that it answers as the statement says. -/
import Derived.Test.YtohpkefnmkdaeaaGreatDoorG10
import Derived.Test.YtohpkefnmkdaeaaGreatDoorD1
import Derived.Lib.ItoaMem
import Derived.Lib.SplitLaws
namespace Go.L
open Go Go.E
set_option linter.unusedVariables false
def ML : Nat := 9223372036854775807
section
variable {α β σ τ : Type}
theorem idx_nat (xs : List α) (i : Nat) : idx xs (i : Int) = xs[i]? := by
  unfold idx; rw [if_pos (Int.natCast_nonneg i), Int.toNat_natCast]
theorem idx_lt {xs : List α} {i : Nat} (h : i < xs.length) : idx xs (i : Int) = some xs[i] := by rw [idx_nat, List.getElem?_eq_getElem h]
theorem idx_get {xs : List α} {k : Int} (h0 : 0 ≤ k) (h : k.toNat < xs.length) : idx xs k = some xs[k.toNat] := by
  unfold idx; rw [if_pos h0, List.getElem?_eq_getElem h]
theorem sl_pre {xs : List α} {i : Nat} (h : i ≤ xs.length) : sl xs 0 (i : Int) = some (xs.take i) := by
  unfold sl
  rw [if_pos (by omega), Int.toNat_natCast]
  rfl
theorem app_le {xs ys : List α} (h : xs.length + ys.length ≤ 4294967296) : app xs ys = some (xs ++ ys) := if_pos h
theorem cntF_nat {n : Nat} (h : n ≤ 4294967296) : cntF 0 (n : Int) = some n := by
  unfold cntF
  rw [if_pos (by omega)]
  congr 1
theorem cntF_of {s : Nat} {e : Int} (h : e ≤ 4294967296) (hs : s ≤ 4294967296) : cntF s e = some (e - s).toNat := if_pos ⟨h, hs⟩
theorem range_to {b : Nat → α → σ → Option (Lo σ τ)} (F : Nat → σ) (xs0 : List α) (h : ∀ i x, xs0[i]? = some x → b i x (F i) = some (.cont (F (i + 1)))) :
    rangeL b xs0 0 (F 0) = some (.nx (F xs0.length)) := by
  have key : ∀ (xs : List α) (i : Nat), xs0.drop i = xs → i ≤ xs0.length → rangeL b xs i (F i) = some (.nx (F xs0.length)) := by
    intro xs
    induction xs with
    | nil =>
      intro i hd hi
      rw [List.drop_eq_nil_iff] at hd
      obtain rfl : i = xs0.length := by omega
      rfl
    | cons x xs ih =>
      intro i hd hi
      have hx := drop_idx hd
      rw [idx_nat] at hx
      show (b i x (F i)).bind _ = _
      rw [h i x hx]
      exact ih (i + 1) (drop_next hd) (List.getElem?_eq_some_iff.1 hx).1
  exact key xs0 0 rfl (Nat.zero_le _)
theorem count_to {b : Nat → σ → Option (Lo σ τ)} (F : Nat → σ) : ∀ (n s : Nat), (∀ i, s ≤ i → i < s + n → b i (F i) = some (.cont (F (i + 1)))) → countL b n s (F s) = some (.nx (F (s + n)))
  | 0, s, _ => rfl
  | n + 1, s, h => by
    show (b s (F s)).bind _ = _
    rw [h s (Nat.le_refl _) (by omega)]
    show countL b n (s + 1) (F (s + 1)) = _
    rw [count_to F n (s + 1) fun i h1 h2 => h i (by omega) (by omega)]
    congr 3; omega
theorem range_inv {b : Nat → α → σ → Option (Lo σ τ)} (xs0 : List α) (I : Nat → σ → Prop) (Q : Jn σ τ → Prop) (h0 : ∀ s, I xs0.length s → Q (.nx s))
    (h : ∀ i x s, xs0[i]? = some x → I i s → ∃ o, b i x s = some o ∧ (match o with | .cont s' => I (i + 1) s' | .brk s' => Q (.nx s') | .out t => Q (.out t))) (s : σ) (hs : I 0 s) :
    ∃ j, rangeL b xs0 0 s = some j ∧ Q j := by
  have key : ∀ (xs : List α) (i : Nat) (s : σ), xs0.drop i = xs → i ≤ xs0.length → I i s → ∃ j, rangeL b xs i s = some j ∧ Q j := by
    intro xs
    induction xs with
    | nil =>
      intro i s hd hi hI
      rw [List.drop_eq_nil_iff] at hd
      obtain rfl : i = xs0.length := by omega
      exact ⟨_, rfl, h0 s hI⟩
    | cons x xs ih =>
      intro i s hd hi hI
      have hx := drop_idx hd
      rw [idx_nat] at hx
      obtain ⟨o, hb, ho⟩ := h i x s hx hI
      have hl := (List.getElem?_eq_some_iff.1 hx).1
      cases o with
      | cont s' =>
        obtain ⟨j, hj, hQ⟩ := ih (i + 1) s' (drop_next hd) hl ho
        exact ⟨j, by show (b i x s).bind _ = _; rw [hb]; exact hj, hQ⟩
      | brk s' => exact ⟨_, by show (b i x s).bind _ = _; rw [hb]; rfl, ho⟩
      | out t => exact ⟨_, by show (b i x s).bind _ = _; rw [hb]; rfl, ho⟩
  exact key xs0 0 s rfl (Nat.zero_le _) hs
theorem count_inv {b : Nat → σ → Option (Lo σ τ)} (I : Nat → σ → Prop) (Q : Jn σ τ → Prop) : ∀ (n k : Nat) (h0 : ∀ s, I (k + n) s → Q (.nx s))
    (h : ∀ i s, k ≤ i → i < k + n → I i s → ∃ o, b i s = some o ∧ (match o with | .cont s' => I (i + 1) s' | .brk s' => Q (.nx s') | .out t => Q (.out t))) (s : σ) (hs : I k s),
    ∃ j, countL b n k s = some j ∧ Q j
  | 0, k, h0, h, s, hs => ⟨_, rfl, h0 s hs⟩
  | n + 1, k, h0, h, s, hs => by
    obtain ⟨o, hb, ho⟩ := h k s (Nat.le_refl _) (by omega) hs
    cases o with
    | cont s' =>
      obtain ⟨j, hj, hQ⟩ := count_inv I Q n (k + 1) (fun s hs => h0 s (by rwa [show k + (n + 1) = k + 1 + n from by omega])) (fun i s h1 h2 => h i s (by omega) (by omega)) s' ho
      exact ⟨j, by show (b k s).bind _ = _; rw [hb]; exact hj, hQ⟩
    | brk s' => exact ⟨_, by show (b k s).bind _ = _; rw [hb]; rfl, ho⟩
    | out t => exact ⟨_, by show (b k s).bind _ = _; rw [hb]; rfl, ho⟩
theorem while_inv {b : σ → Option (Lo σ τ)} (I : Nat → σ → Prop) (Q : Jn σ τ → Prop)
    (h : ∀ n s, I n s → ∃ o, b s = some o ∧ (match o with | .cont s' => ∃ m, m < n ∧ I m s' | .brk s' => Q (.nx s') | .out t => Q (.out t))) :
    ∀ k n s, I n s → n < k → ∃ j, whileL b k s = some j ∧ Q j := by
  intro k
  induction k with
  | zero => intro n s _ h; omega
  | succ k ih =>
    intro n s hI hk
    obtain ⟨o, hb, ho⟩ := h n s hI
    cases o with
    | cont s' =>
      obtain ⟨m, hm, hI'⟩ := ho
      obtain ⟨j, hj, hQ⟩ := ih m s' hI' (by omega)
      exact ⟨j, by show (b s).bind _ = _; rw [hb]; exact hj, hQ⟩
    | brk s' => exact ⟨_, by show (b s).bind _ = _; rw [hb]; rfl, ho⟩
    | out t => exact ⟨_, by show (b s).bind _ = _; rw [hb]; rfl, ho⟩
def allFrom (q : Nat → α → Bool) : List α → Nat → Bool
  | [], _ => true
  | x :: xs, i => q i x && allFrom q xs (i + 1)
theorem allFrom_const (q : α → Bool) : ∀ (xs : List α) (i : Nat), allFrom (fun _ x => q x) xs i = xs.all q
  | [], _ => rfl
  | x :: xs, i => by rw [allFrom, allFrom_const q xs, List.all_cons]
theorem allFrom_iff (q : Nat → α → Bool) : ∀ (xs : List α) (k : Nat), allFrom q xs k = true ↔ ∀ i x, xs[i]? = some x → q (k + i) x = true
  | [], k => by simp [allFrom]
  | x :: xs, k => by
    rw [allFrom, Bool.and_eq_true, allFrom_iff q xs (k + 1)]
    constructor
    · rintro ⟨h0, h⟩ i y hy
      cases i with
      | zero => simp at hy; subst hy; simpa using h0
      | succ i => have := h i y (by simpa using hy); rwa [show k + 1 + i = k + (i + 1) from by omega] at this
    · intro h
      exact ⟨by simpa using h 0 x rfl, fun i y hy => by have := h (i + 1) y (by simpa using hy); rwa [show k + (i + 1) = k + 1 + i from by omega] at this⟩
theorem range_allI (q : Nat → α → Bool) (t : τ) {b : Nat → α → Unit → Option (Lo Unit τ)} (xs0 : List α)
    (hb : ∀ (i : Nat) (x : α), xs0[i]? = some x → b i x () = some (if q i x then .cont () else .out t)) : rangeL b xs0 0 () = some (if allFrom q xs0 0 then .nx () else .out t) := by
  have key : ∀ (xs : List α) (i : Nat), xs0.drop i = xs → rangeL b xs i () = some (if allFrom q xs i then .nx () else .out t) := by
    intro xs
    induction xs with
    | nil => intro i _; rfl
    | cons x xs ih =>
      intro i h
      have hx := drop_idx h
      rw [idx_nat] at hx
      show (b i x ()).bind _ = _
      rw [hb i x hx]
      cases hq : q i x with
      | true => show rangeL b xs (i + 1) () = _; rw [ih (i + 1) (drop_next h)]; simp [allFrom, hq]
      | false => simp [allFrom, hq]
  exact key xs0 0 rfl
theorem range_all (q : α → Bool) (t : τ) {b : Nat → α → Unit → Option (Lo Unit τ)} (xs0 : List α)
    (hb : ∀ (i : Nat) (x : α), xs0[i]? = some x → b i x () = some (if q x then .cont () else .out t)) : rangeL b xs0 0 () = some (if xs0.all q then .nx () else .out t) := by
  rw [range_allI (fun _ => q) t xs0 hb, allFrom_const]
end
end Go.L
namespace Go.L
open Go Go.E
set_option linter.unusedSimpArgs false
set_option linter.unusedVariables false
theorem bs_list (l : List UInt8) : (bs l).data.toList = l := by simp [bs]
theorem bs_size (l : List UInt8) : (bs l).size = l.length := by show l.toArray.size = _; simp
theorem bs_of (s : ByteArray) : s = bs s.data.toList := (bs_data s).symm
theorem cat_bs {a b : List UInt8} (h : a.length + b.length ≤ 9223372036854775807) : cat (bs a) (bs b) = some (bs (a ++ b)) := by
  unfold cat
  rw [if_pos (by rw [bs_size, bs_size]; exact h)]
  simp only [bs]
  exact congrArg some (ByteArray.ext (by simp))
theorem eq_bs (a b : List UInt8) : (ByteArray.toList (bs a) == ByteArray.toList (bs b)) = (a == b) := by
  simp only [bs, ByteArray.toList_mk]
theorem sidx_bs (l : List UInt8) (k : Int) : sidx (bs l) k = idx l k := by unfold sidx; rw [bs_list]
theorem ssl_bs {l : List UInt8} {a b : Int} (h0 : 0 ≤ a) (h1 : a ≤ b) (h2 : b ≤ (l.length : Int)) : ssl (bs l) a b = some (bs ((l.drop a.toNat).take (b.toNat - a.toNat))) := by
  unfold ssl
  rw [if_pos ⟨h0, h1, by rw [bs_size]; exact h2⟩]
  show some ((ByteArray.mk l.toArray).extract _ _) = _
  rw [ByteArray.extract_mk]
  rfl
theorem ssl_from {l : List UInt8} {a : Nat} (h : a ≤ l.length) : ssl (bs l) (a : Int) ((bs l).size : Int) = some (bs (l.drop a)) := by
  rw [bs_size, ssl_bs (by omega) (by omega) (by omega)]
  simp [List.take_of_length_le]
def dec (n : Nat) : List UInt8 := Go.Lib.decDigits n
theorem dec_small {n : Nat} (h : n < 10) : dec n = [UInt8.ofNat (48 + n)] := Go.Lib.decDigits_one h
theorem dec_big {n : Nat} (h : ¬ n < 10) : dec n = dec (n / 10) ++ [UInt8.ofNat (48 + n % 10)] := by
  unfold dec
  rw [Go.Lib.decDigits, dif_neg h]
theorem dec_len : ∀ (k n : Nat), n < 10 ^ (k + 1) → (dec n).length ≤ k + 1
  | 0, n, h => by rw [dec_small (by simpa using h)]; simp
  | k + 1, n, h => by
    by_cases hn : n < 10
    · rw [dec_small hn]; simp
    · rw [dec_big hn, List.length_append]
      have := dec_len k (n / 10) (by rw [Nat.div_lt_iff_lt_mul (by omega)]; rw [Nat.pow_succ] at h; omega)
      simp; omega
theorem dec_pos (n : Nat) : 1 ≤ (dec n).length := by
  by_cases hn : n < 10
  · rw [dec_small hn]; simp
  · rw [dec_big hn]; simp
theorem dec_len20 {n : Nat} (h : n ≤ 9223372036854775807) : (dec n).length ≤ 19 := dec_len 18 n (by omega)
theorem dec_digit : ∀ (n : Nat), ∀ b ∈ dec n, 48 ≤ b.toNat ∧ b.toNat ≤ 57 := by
  intro n
  induction n using Nat.strongRecOn with
  | ind n ih =>
    intro b hb
    by_cases hn : n < 10
    · rw [dec_small hn] at hb
      obtain rfl := List.mem_singleton.1 hb
      rw [UInt8.toNat_ofNat']
      omega
    · rw [dec_big hn] at hb
      rcases List.mem_append.1 hb with h | h
      · exact ih _ (by omega) b h
      · obtain rfl := List.mem_singleton.1 h
        rw [UInt8.toNat_ofNat']
        omega
def val (a : Nat) (l : List UInt8) : Nat := l.foldl (fun a b => a * 10 + (b.toNat - 48)) a
theorem val_ge : ∀ (l : List UInt8) (a : Nat), a ≤ val a l
  | [], a => Nat.le_refl a
  | b :: l, a => Nat.le_trans (by omega) (val_ge l (a * 10 + (b.toNat - 48)))
theorem val_dec : ∀ n, val 0 (dec n) = n := by
  intro n
  induction n using Nat.strongRecOn with
  | ind n ih =>
    by_cases hn : n < 10
    · rw [dec_small hn]
      simp only [val, List.foldl_cons, List.foldl_nil, UInt8.toNat_ofNat']
      omega
    · rw [dec_big hn]
      have := ih (n / 10) (by omega)
      unfold val at this ⊢
      rw [List.foldl_append, this]
      simp only [List.foldl_cons, List.foldl_nil, UInt8.toNat_ofNat']
      omega
theorem dec_head : ∀ (n : Nat), n ≠ 0 → (dec n)[0]? ≠ some 48 := by
  intro n
  induction n using Nat.strongRecOn with
  | ind n ih =>
    intro h0
    by_cases hn : n < 10
    · rw [dec_small hn]
      simp only [List.getElem?_cons_zero, ne_eq, Option.some.injEq]
      intro h
      have := congrArg UInt8.toNat h
      rw [UInt8.toNat_ofNat'] at this
      simp at this
      omega
    · rw [dec_big hn, List.getElem?_append_left (by have := dec_pos (n / 10); omega)]
      exact ih _ (by omega) (by omega)
theorem wrap_u8 {x : Int} (h0 : 0 ≤ x) (h1 : x < 256) : IntKind.u8.wrap x = x := by
  unfold IntKind.wrap IntKind.bits IntKind.signed
  simp
  omega
theorem u8w_nat {m : Nat} (h : m < 256) : u8w (m : Int) = UInt8.ofNat m := by
  unfold u8w
  rw [wrap_u8 (by omega) (by omega)]
  rfl
theorem itoa_nat {n : Nat} (h : n ≤ 9223372036854775807) : strconv_Itoa (n : Int) = some (bs (dec n)) := by
  unfold strconv_Itoa
  rw [if_pos ⟨by omega, by omega⟩, Go.Lib.itoa_nonneg]
  rfl
theorem itoa_of {n : Int} (h0 : 0 ≤ n) (h : n ≤ 9223372036854775807) : strconv_Itoa n = some (bs (dec n.toNat)) := by
  have := itoa_nat (n := n.toNat) (by omega)
  rwa [show ((n.toNat : Nat) : Int) = n by omega] at this
theorem s_dec_loop (n : Nat) (hn : n ≤ 9223372036854775807) (fu : Nat) (hf : 30 ≤ fu) : ∃ j, whileL s_l17Dec_b1 fu ((n : Int), (⟨#[]⟩ : ByteArray)) = some j ∧ ∃ (m : Nat) (o : List UInt8), j = .nx ((m : Int), bs o) ∧ m < 10 ∧ dec n = dec m ++ o := by
  refine while_inv (fun k s => ∃ (m : Nat) (o : List UInt8), s = ((m : Int), bs o) ∧ m ≤ n ∧ dec n = dec m ++ o ∧ k = (dec m).length) _ ?_ fu (dec n).length _ ⟨n, [], rfl, Nat.le_refl _, by simp, rfl⟩ (by have := dec_len20 hn; omega)
  rintro k s ⟨m, o, rfl, hm, hd, rfl⟩
  unfold s_l17Dec_b1
  by_cases h : m < 10
  · simp only []
    rw [if_neg (by simp only [decide_eq_true_eq]; omega)]
    exact ⟨_, rfl, m, o, rfl, h, hd⟩
  · simp only []
    have hl := dec_len20 hn
    rw [hd, List.length_append] at hl
    have hm1 := dec_pos m
    rw [if_pos (by simp only [decide_eq_true_eq]; omega), show Int.tmod (m : Int) 10 = ((m % 10 : Nat) : Int) from by rw [Int.tmod_eq_emod_of_nonneg (by omega)]; omega,
      show (i64 (48 + ((m % 10 : Nat) : Int))) = ((48 + m % 10 : Nat) : Int) from by rw [i64_id (by omega) (by omega)]; omega, u8w_nat (by omega), cat_bs (by simp; omega), Option.bind_some]
    refine ⟨_, rfl, _, ?_, m / 10, UInt8.ofNat (48 + m % 10) :: o, ?_, by omega, ?_, rfl⟩
    · rw [dec_big h]; simp
    · rw [show Int.tdiv (m : Int) 10 = ((m / 10 : Nat) : Int) from by rw [Int.tdiv_eq_ediv_of_nonneg (by omega)]; omega, i64_id (by omega) (by omega)]
      rfl
    · rw [hd, dec_big h]; simp
theorem s_dec {n : Nat} (hn : n ≤ 9223372036854775807) {fu : Nat} (hf : 30 ≤ fu) : s_l17Dec fu (n : Int) = some (bs (dec n)) := by
  obtain ⟨k, rfl⟩ : ∃ k, fu = k + 1 := ⟨fu - 1, by omega⟩
  unfold s_l17Dec
  show s_l17Dec_F (k + 1) (s_l17Dec_R (k + 1) k) (n : Int) = _
  unfold s_l17Dec_F
  rw [if_neg (by simp only [decide_eq_true_eq]; omega), if_neg (by simp only [decide_eq_true_eq]; omega)]
  obtain ⟨j, hj, m, o, rfl, hm, hd⟩ := s_dec_loop n hn (k + 1) hf
  rw [hj, Option.bind_some]
  have hl := dec_len20 hn
  rw [hd, List.length_append] at hl
  have hm1 := dec_pos m
  show Option.bind (cat (bs [u8w (i64 (48 + (m : Int)))]) (bs o)) _ = _
  rw [show (i64 (48 + (m : Int))) = ((48 + m : Nat) : Int) from by rw [i64_id (by omega) (by omega)]; omega, u8w_nat (by omega), cat_bs (by simp; omega), Option.bind_some, hd, dec_small hm]
theorem s_dec_of {n : Int} (h0 : 0 ≤ n) (h : n ≤ 9223372036854775807) {fu : Nat} (hf : 30 ≤ fu) : s_l17Dec fu n = some (bs (dec n.toNat)) := by
  have := s_dec (n := n.toNat) (by omega) hf
  rwa [show ((n.toNat : Nat) : Int) = n by omega] at this
end Go.L
namespace Go.L
open Go Go.E
set_option linter.unusedSimpArgs false
set_option linter.unusedVariables false
def splitC (c : UInt8) : List UInt8 → List (List UInt8)
  | [] => [[]]
  | b :: l => if b = c then [] :: splitC c l else match splitC c l with
    | [] => [[b]]
    | w :: ws => (b :: w) :: ws
theorem splitC_ne (c : UInt8) : ∀ l, splitC c l ≠ []
  | [] => by simp [splitC]
  | b :: l => by
    unfold splitC
    split
    · simp
    · split <;> simp
theorem splitC_none {c : UInt8} : ∀ {w : List UInt8}, c ∉ w → splitC c w = [w]
  | [], _ => rfl
  | b :: w, h => by
    have h1 : b ≠ c := fun e => h (by simp [e])
    rw [splitC, if_neg h1, splitC_none (fun e => h (List.mem_cons_of_mem _ e))]
theorem splitC_cut {c : UInt8} : ∀ {w : List UInt8} (r : List UInt8), c ∉ w → splitC c (w ++ c :: r) = w :: splitC c r
  | [], r, _ => by simp [splitC]
  | b :: w, r, h => by
    have h1 : b ≠ c := fun e => h (by simp [e])
    rw [List.cons_append, splitC, if_neg h1, splitC_cut r (fun e => h (List.mem_cons_of_mem _ e))]
theorem splitC_len (c : UInt8) : ∀ l, (splitC c l).length ≤ l.length + 1
  | [] => by simp [splitC]
  | b :: l => by
    have ih := splitC_len c l
    unfold splitC
    split
    · simp; omega
    · split
      · simp
      · rename_i h; rw [h] at ih; simp at ih ⊢; omega
theorem splitC_mem {c : UInt8} : ∀ {l : List UInt8} {w : List UInt8}, w ∈ splitC c l → w.length ≤ l.length
  | [], w, h => by simp [splitC] at h; subst h; simp
  | b :: l, w, h => by
    unfold splitC at h
    split at h
    · rcases List.mem_cons.1 h with rfl | h
      · simp
      · have := splitC_mem h; simp; omega
    · split at h
      · simp at h; subst h; simp
      · rename_i w' ws' e
        rcases List.mem_cons.1 h with rfl | h
        · have := splitC_mem (l := l) (w := w') (by rw [e]; simp); simp; omega
        · have := splitC_mem (l := l) (w := w) (by rw [e]; simp [h]); simp; omega
theorem first_cut {c : UInt8} {l : List UInt8} (h : c ∈ l) : ∃ w r, l = w ++ c :: r ∧ c ∉ w := List.eq_append_cons_of_mem h
theorem index_cut {c : UInt8} : ∀ {w : List UInt8} (r : List UInt8), c ∉ w → Go.Lib.index (w ++ c :: r) [c] = w.length
  | [], r, _ => by simp [Go.Lib.index, List.isPrefixOf]
  | b :: w, r, h => by
    have h1 : c ≠ b := fun e => h (by simp [e])
    have ih := index_cut r (fun e => h (List.mem_cons_of_mem _ e))
    rw [List.cons_append, Go.Lib.index, ih]
    simp [List.isPrefixOf, h1]
theorem index_none {c : UInt8} : ∀ {w : List UInt8}, c ∉ w → Go.Lib.index w [c] = -1
  | [], _ => by simp [Go.Lib.index]
  | b :: w, h => by
    have h1 : c ≠ b := fun e => h (by simp [e])
    rw [Go.Lib.index, index_none (fun e => h (List.mem_cons_of_mem _ e))]
    simp [List.isPrefixOf, h1]
theorem splitK_eq (c : UInt8) : ∀ (k : Nat) (l : List UInt8), l.count c = k → Go.Lib.splitK [c] 0 k l = splitC c l
  | 0, l, h => by
    rw [Go.Lib.splitK, splitC_none (List.count_eq_zero.1 h)]
  | k + 1, l, h => by
    obtain ⟨w, r, rfl, hw⟩ := first_cut (List.count_pos_iff.1 (by omega : 0 < l.count c))
    have hr : r.count c = k := by
      rw [List.count_append, List.count_cons_self, List.count_eq_zero.2 hw] at h
      omega
    rw [Go.Lib.splitK, index_cut r hw, if_neg (by simp <;> omega), splitC_cut r hw]
    simp only [Int.toNat_natCast, Nat.add_zero, List.length_cons, List.length_nil]
    rw [List.take_left' rfl, show w ++ c :: r = (w ++ [c]) ++ r by simp, List.drop_left' (by simp), splitK_eq c k r hr]
theorem map_bs (xs : List ByteArray) : xs = (xs.map (·.data.toList)).map bs := by
  induction xs with
  | nil => rfl
  | cons x xs ih => rw [List.map_cons, List.map_cons, ← ih, ← bs_of]
theorem strings_split {l : List UInt8} {c : UInt8} (h : l.length < 4294967281) : strings_Split (bs l) (bs [c]) = some ((splitC c l).map bs) := by
  unfold strings_Split
  rw [if_pos ⟨by rw [bs_size]; exact h, by rw [bs_size]; simp⟩, map_bs (Go.Lib.splitB _ _ _ _), Go.Lib.splitB_data, bs_list, bs_list]
  congr 2
  refine splitK_eq c _ l ?_
  show _ = Go.Lib.count (bs l).data.toList (bs [c]).data.toList
  rw [bs_list, bs_list, Go.Lib.count_one]
theorem s_cut {l : List UInt8} {c : Nat} (hc : c < 256) (h : l.length ≤ 1048576) : s_l17Cut (bs l) (c : Int) = some ((splitC (UInt8.ofNat c) l).map bs) := by
  have hcc : ((UInt8.ofNat c).toNat) = c := by rw [UInt8.toNat_ofNat']; omega
  unfold s_l17Cut
  rw [bs_size, show ((l.length : Int) + 1) = ((l.length + 1 : Nat) : Int) by omega, cntF_nat (by omega), Option.bind_some]
  obtain ⟨j, hj, out, fr, rfl, rfl⟩ : ∃ j, countL (s_l17Cut_b1 (bs l) (c : Int)) (l.length + 1) 0 ([], 0) = some j ∧ ∃ (out : List (List UInt8)) (fr : Int), j = .nx (out.map bs, fr) ∧ out = splitC (UInt8.ofNat c) l := by
    refine count_inv (fun i s => ∃ (out : List (List UInt8)) (fr : Nat), s = (out.map bs, (fr : Int)) ∧ fr ≤ i ∧ out.length ≤ i ∧
      (i ≤ l.length → UInt8.ofNat c ∉ (l.drop fr).take (i - fr) ∧ out ++ splitC (UInt8.ofNat c) (l.drop fr) = splitC (UInt8.ofNat c) l) ∧ (l.length < i → out = splitC (UInt8.ofNat c) l)) _ (l.length + 1) 0 ?_ ?_ _ ⟨[], 0, rfl, Nat.le_refl _, Nat.le_refl _, fun _ => ⟨by simp, by simp⟩, fun h => by omega⟩
    · rintro s ⟨out, fr, rfl, _, _, _, h2⟩
      exact ⟨out, _, rfl, h2 (by omega)⟩
    · rintro i s _ hi ⟨out, fr, rfl, hfr, hol, h1, _⟩
      have hi : i ≤ l.length := by omega
      obtain ⟨h1, h2⟩ := h1 hi
      unfold s_l17Cut_b1
      simp only []
      have hend : ∀ (w : List UInt8), w = (l.drop fr).take (i - fr) → ((ssl (bs l) (fr : Int) (i : Int)).bind fun x23 => (app (out.map bs) ([x23])).bind fun x27 => some (x27, i64 ((i : Int) + 1))) = some ((out ++ [w]).map bs, ((i + 1 : Nat) : Int)) := by
        rintro w rfl
        rw [ssl_bs (by omega) (by omega) (by omega), Option.bind_some, app_le (by simp; omega), Option.bind_some, i64_id (by omega) (by omega)]
        simp
      by_cases he : i = l.length
      · subst he
        rw [if_pos (by simp [bs_size]), Option.bind_some]
        simp only [if_true]
        rw [hend _ rfl]
        simp only [Option.bind_some]
        refine ⟨_, rfl, _, l.length + 1, rfl, by omega, by simp; omega, fun h => by omega, fun _ => ?_⟩
        rw [← h2]
        have h3 : (l.drop fr).take (l.length - fr) = l.drop fr := List.take_of_length_le (by simp)
        rw [h3] at h1 ⊢
        rw [splitC_none h1]
      · have hlt : i < l.length := by omega
        rw [if_neg (by simp only [bs_size, beq_iff_eq]; omega), sidx_bs, idx_lt hlt, Option.bind_some, Option.bind_some]
        by_cases hb : l[i] = UInt8.ofNat c
        · have e1 : (((l[i]).toNat : Int) == (((c : Int).toNat : Nat) : Int)) = true := by rw [hb, hcc]; simp
          rw [e1]
          simp only [if_true]
          rw [hend _ rfl]
          simp only [Option.bind_some]
          refine ⟨_, rfl, _, i + 1, rfl, by omega, by simp; omega, fun _ => ⟨by simp, ?_⟩, fun h => by omega⟩
          rw [← h2, List.append_assoc]
          congr 1
          have hd : l.drop fr = (l.drop fr).take (i - fr) ++ UInt8.ofNat c :: l.drop (i + 1) := by
            have e2 : (l.drop fr).drop (i - fr) = l.drop i := by rw [List.drop_drop]; congr 1; omega
            have e3 : l.drop i = UInt8.ofNat c :: l.drop (i + 1) := by rw [List.drop_eq_getElem_cons hlt, hb]
            rw [← e3, ← e2, List.take_append_drop]
          rw [List.singleton_append]
          conv => rhs; rw [hd]
          rw [splitC_cut _ h1]
        · have e1 : (((l[i]).toNat : Int) == (((c : Int).toNat : Nat) : Int)) = false := by
            simp only [beq_eq_false_iff_ne]
            intro e
            exact hb (UInt8.toNat_inj.1 (by rw [hcc]; omega))
          rw [e1]
          simp only [Bool.false_eq_true, if_false, Option.bind_some]
          refine ⟨_, rfl, out, fr, rfl, by omega, by omega, fun _ => ⟨?_, h2⟩, fun h => by omega⟩
          have e4 : i + 1 - fr = (i - fr) + 1 := by omega
          have e5 : (l.drop fr)[i - fr]? = some l[i] := by rw [List.getElem?_drop, show fr + (i - fr) = i by omega, List.getElem?_eq_getElem hlt]
          rw [e4, List.take_add_one, e5]
          intro hm
          rcases List.mem_append.1 hm with h | h
          · exact h1 h
          · simp at h; exact hb h.symm
  rw [hj, Option.bind_some]
end Go.L
namespace Go.L
open Go Go.E
set_option linter.unusedVariables false
set_option linter.unusedSimpArgs false
set_option maxRecDepth 100000
def absI (n : Int) : Int := max n (-n)
def okT (t : Term) : Bool := (t.lit != 0 && decide (-12 ≤ t.lit) && decide (t.lit ≤ 12)) && (decide (1 ≤ t.coef) && decide (t.coef ≤ 1000))
def okTerms : Int → List Term → Bool
  | _, [] => true
  | b, t :: ts => (okT t && decide (b < absI t.lit)) && okTerms (absI t.lit) ts
def okB (b : Int) : Bool := decide (0 ≤ b) && decide (b ≤ 20000)
def okCon (c : Con) : Bool := okTerms 0 c.terms && okB c.bound
theorem i_valid_loop : ∀ (ts : List Term) (i : Nat) (b : Int), ∃ b', rangeL i_ConstraintValid_b1 ts i b = some (if okTerms b ts then .nx b' else .out false)
  | [], i, b => ⟨b, rfl⟩
  | t :: ts, i, b => by
    obtain ⟨b', h⟩ := i_valid_loop ts (i + 1) (absI t.lit)
    refine ⟨b', ?_⟩
    show (i_ConstraintValid_b1 i t b).bind _ = _
    have e : i_ConstraintValid_b1 i t b = some (if okT t && decide (b < absI t.lit) then .cont (absI t.lit) else .out false) := by
      unfold i_ConstraintValid_b1 i_isLiteral i_within i_variableOf okT absI
      by_cases h0 : t.lit = 0
      · simp [h0]
      by_cases h1 : -12 ≤ t.lit ∧ t.lit ≤ 12
      · rw [i64_id (n := -t.lit) (by omega) (by omega)]
        by_cases h2 : 1 ≤ t.coef ∧ t.coef ≤ 1000
        · by_cases h3 : b < max t.lit (-t.lit)
          · have : ¬ max t.lit (-t.lit) ≤ b := by omega
            simp [h0, h1.1, h1.2, h2.1, h2.2, h3, this]
          · have : max t.lit (-t.lit) ≤ b := by omega
            simp [h0, h1.1, h1.2, h2.1, h2.2, h3, this]
        · have h2' : (decide (1 ≤ t.coef) && decide (t.coef ≤ 1000)) = false := by simp; omega
          simp only [h2']
          simp [h0, h1.1, h1.2]
      · have h1' : (decide (-12 ≤ t.lit) && decide (t.lit ≤ 12)) = false := by simp; omega
        simp only [Bool.and_assoc, h1']
        simp [h0]
    rw [e, okTerms]
    cases okT t && decide (b < absI t.lit) with
    | true => simpa using h
    | false => rfl
theorem i_valid (c : Con) : i_ConstraintValid c = some (okCon c) := by
  unfold i_ConstraintValid okCon
  obtain ⟨b', h⟩ := i_valid_loop c.terms 0 0
  rw [h]
  cases okTerms 0 c.terms <;> simp [i_within, okB]
theorem s_abs (n : Int) (h1 : -9223372036854775807 ≤ n) (h2 : n ≤ 9223372036854775807) : s_l1Abs n = some (absI n) := by
  unfold s_l1Abs absI
  by_cases h : n < 0
  · rw [if_pos (by simpa using h), i64_id (by omega) (by omega)]; congr 1; omega
  · rw [if_neg (by simpa using h)]; congr 1; omega
theorem okT_lit {t : Term} (h : okT t = true) : t.lit ≠ 0 ∧ -12 ≤ t.lit ∧ t.lit ≤ 12 ∧ 1 ≤ t.coef ∧ t.coef ≤ 1000 := by
  unfold okT at h
  simp at h
  exact ⟨h.1.1.1, h.1.1.2, h.1.2, h.2.1, h.2.2⟩
theorem s_valid_loop (c : Con) (hl : c.terms.length ≤ ML) : ∀ (ts : List Term) (i : Nat) (b : Int), c.terms.drop i = ts → (i = 0 ∧ b = 0 ∨ ∃ t, 0 < i ∧ c.terms[i - 1]? = some t ∧ okT t = true ∧ b = absI t.lit) →
    rangeL (s_ConstraintValid_b1 c) ts i () = some (if okTerms b ts then .nx () else .out false)
  | [], i, b, _, _ => rfl
  | t :: ts, i, b, hd, hb => by
    show (s_ConstraintValid_b1 c i t ()).bind _ = _
    have e : s_ConstraintValid_b1 c i t () = some (if okT t && decide (b < absI t.lit) then .cont () else .out false) := by
      unfold s_ConstraintValid_b1 s_l1Lit
      by_cases hk : okT t = true
      · obtain ⟨h0, h1, h2, h3, h4⟩ := okT_lit hk
        have e1 : ((!((t.lit != 0) && decide (t.lit ≥ -12) && decide (t.lit ≤ 12)) || decide (t.coef < 1)) || decide (t.coef > 1000)) = false := by simp; omega
        simp only [Option.bind_some, e1, hk]
        have hpos : 0 < absI t.lit := by unfold absI; omega
        rcases hb with ⟨rfl, rfl⟩ | ⟨p, hi, hp, hpk, rfl⟩
        · simp [hpos]
        · obtain ⟨q0, q1, q2, _, _⟩ := okT_lit hpk
          have hil := (List.getElem?_eq_some_iff.1 hp).1
          unfold ML at hl
          have hi2 : decide ((i : Int) > 0) = true := by simpa using hi
          have e2 : idx c.terms (i64 ((i : Int) - 1)) = some p := by
            rw [i64_id (by omega) (by omega), show (i : Int) - 1 = ((i - 1 : Nat) : Int) by omega, idx_nat, hp]
          simp only [hi2, e2, Option.bind_some, s_abs p.lit (by omega) (by omega), s_abs t.lit (by omega) (by omega)]
          by_cases h5 : absI p.lit < absI t.lit
          · have : ¬ absI p.lit ≥ absI t.lit := by omega
            simp [h5, this]
          · have : absI p.lit ≥ absI t.lit := by omega
            simp [h5, this]
      · have hk' : okT t = false := by simpa using hk
        have e1 : ((!((t.lit != 0) && decide (t.lit ≥ -12) && decide (t.lit ≤ 12)) || decide (t.coef < 1)) || decide (t.coef > 1000)) = true := by
          cases hx : ((!((t.lit != 0) && decide (t.lit ≥ -12) && decide (t.lit ≤ 12)) || decide (t.coef < 1)) || decide (t.coef > 1000)) with
          | true => rfl
          | false =>
            exfalso
            apply hk
            unfold okT
            simp at hx ⊢
            omega
        simp only [Option.bind_some, e1, hk']
        rfl
    rw [e, okTerms]
    cases hok : okT t && decide (b < absI t.lit) with
    | true =>
      rw [Bool.and_eq_true] at hok
      simpa using s_valid_loop c hl ts (i + 1) (absI t.lit) (drop_next hd) (.inr ⟨t, by omega, by have := drop_idx hd; rw [idx_nat] at this; simpa using this, hok.1, rfl⟩)
    | false => rfl
theorem s_valid (c : Con) (hl : c.terms.length ≤ ML) : s_ConstraintValid c = some (okCon c) := by
  unfold s_ConstraintValid okCon
  rw [s_valid_loop c hl c.terms 0 0 rfl (.inl ⟨rfl, rfl⟩)]
  cases okTerms 0 c.terms <;> simp [okB]
end Go.L
namespace Go.L
open Go Go.E
set_option linter.unusedVariables false
set_option linter.unusedSimpArgs false
set_option maxRecDepth 100000
theorem okTerms_len : ∀ (ts : List Term) (b : Int), 0 ≤ b → okTerms b ts = true → (ts.length : Int) + b ≤ 12 ∨ ts = []
  | [], _, _, _ => .inr rfl
  | t :: ts, b, hb, h => by
    rw [okTerms, Bool.and_eq_true, Bool.and_eq_true] at h
    obtain ⟨⟨h1, h2⟩, h3⟩ := h
    obtain ⟨h0, l1, l2, _, _⟩ := okT_lit h1
    have h2 := of_decide_eq_true h2
    have ha : absI t.lit ≤ 12 := by unfold absI; omega
    left
    rcases okTerms_len ts (absI t.lit) (by omega) h3 with h | h
    · simp; omega
    · subst h; simp; omega
theorem okTerms_all : ∀ (ts : List Term) (b : Int), okTerms b ts = true → ∀ t ∈ ts, okT t = true
  | [], _, _, t, ht => by cases ht
  | t :: ts, b, h, u, hu => by
    rw [okTerms, Bool.and_eq_true, Bool.and_eq_true] at h
    rcases List.mem_cons.1 hu with rfl | hu
    · exact h.1.1
    · exact okTerms_all ts _ h.2 u hu
theorem okCon_parts {c : Con} (h : okCon c = true) : okTerms 0 c.terms = true ∧ c.terms.length ≤ 12 ∧ (∀ t ∈ c.terms, okT t = true) ∧ 0 ≤ c.bound ∧ c.bound ≤ 20000 := by
  unfold okCon okB at h
  simp at h
  refine ⟨h.1, ?_, okTerms_all _ _ h.1, h.2.1, h.2.2⟩
  rcases okTerms_len _ _ (Int.le_refl 0) h.1 with h | h
  · omega
  · rw [h]; simp
end Go.L
namespace Go.L
open Go Go.E
set_option linter.unusedVariables false
set_option linter.unusedSimpArgs false
set_option maxRecDepth 100000
end Go.L
namespace Go.L
open Go Go.E
set_option linter.unusedVariables false
set_option linter.unusedSimpArgs false
set_option maxRecDepth 100000
end Go.L
namespace Go.L
open Go Go.E
set_option linter.unusedVariables false
set_option linter.unusedSimpArgs false
set_option maxRecDepth 100000
end Go.L
namespace Go.L
open Go Go.E
set_option linter.unusedVariables false
set_option linter.unusedSimpArgs false
set_option maxRecDepth 100000
end Go.L
namespace Go.L
open Go Go.E
set_option linter.unusedVariables false
set_option linter.unusedSimpArgs false
set_option maxRecDepth 100000
end Go.L
namespace Go.L
open Go Go.E
set_option linter.unusedVariables false
set_option linter.unusedSimpArgs false
set_option maxRecDepth 100000
end Go.L
namespace Go.L
open Go Go.E
set_option linter.unusedVariables false
set_option linter.unusedSimpArgs false
set_option maxRecDepth 100000
end Go.L
namespace Go.L
open Go Go.E
set_option linter.unusedVariables false
set_option linter.unusedSimpArgs false
set_option maxRecDepth 100000
end Go.L
namespace Go.L
open Go Go.E
set_option linter.unusedVariables false
set_option linter.unusedSimpArgs false
set_option maxRecDepth 100000
def So {α : Type} (x : Option α) (P : α → Prop) : Prop := ∃ a, x = some a ∧ P a
section
variable {α β σ τ : Type}
theorem so_some {a : α} {P : α → Prop} (h : P a) : So (some a) P := ⟨a, rfl, h⟩
theorem so_bind {x : Option α} {f : α → Option β} {P : α → Prop} {Q : β → Prop} (hx : So x P) (hf : ∀ a, P a → So (f a) Q) : So (x.bind f) Q := by
  obtain ⟨a, rfl, ha⟩ := hx
  exact hf a ha
theorem so_ite {c : Prop} [Decidable c] {x y : Option α} {P : α → Prop} (h1 : c → So x P) (h2 : ¬ c → So y P) : So (if c then x else y) P := by
  split
  · exact h1 ‹_›
  · exact h2 ‹_›
theorem so_idx {xs : List α} {k : Int} {P : α → Prop} (h0 : 0 ≤ k) (h1 : k < (xs.length : Int)) (h : ∀ x ∈ xs, P x) : So (idx xs k) P := by
  have hl : k.toNat < xs.length := by omega
  exact ⟨_, idx_get h0 hl, h _ (List.getElem_mem hl)⟩
end
end Go.L
namespace Go.L
open Go Go.E
set_option linter.unusedSimpArgs false
set_option linter.unusedVariables false
set_option maxRecDepth 100000
theorem parse_val : ∀ (l : List UInt8) (a : Nat), (∀ b ∈ l, 48 ≤ b.toNat ∧ b.toNat ≤ 57) → val a l ≤ 1000000000000 → Go.Lib.parseUint10 a l = .ok (val a l)
  | [], a, _, _ => rfl
  | b :: l, a, h, hv => by
    have h1 := h b (by simp)
    have h2 : a * 10 + (b.toNat - 48) ≤ val a (b :: l) := val_ge l _
    rw [Go.Lib.parseUint10, if_pos h1, if_neg (by omega), if_neg (by omega)]
    exact parse_val l _ (fun x hx => h x (by simp [hx])) hv
theorem atoi_dec {n : Nat} (h : n ≤ 1000000000000) : Go.Lib.atoiAll (dec n) = .ok (n : Int) := by
  have hd := dec_digit n
  have hv := val_dec n
  have hp := dec_pos n
  cases hl : dec n with
  | nil => rw [hl] at hp; simp at hp
  | cons c r =>
    rw [hl] at hd hv
    have hc := hd c (by simp)
    unfold Go.Lib.atoiAll
    simp only
    rw [if_neg (by omega), Go.Lib.parseMag, if_neg (by simp), parse_val _ _ hd (by omega), hv]
    simp only
    rw [if_neg (by omega), if_neg (by omega), if_neg (by omega)]
def numI (l : List UInt8) : Int := if (atoiR (bs l) (Go.Lib.atoiAll l)).2 then 0 else (atoiR (bs l) (Go.Lib.atoiAll l)).1
theorem i_num {l : List UInt8} (h : l.length ≤ 1048576) : i_number (bs l) = some (numI l) := by
  unfold i_number strconv_Atoi
  rw [if_pos (by rw [bs_size]; omega), Option.bind_some, bs_list]
  unfold numI
  split <;> rfl
theorem numI_dec {n : Nat} (h : n ≤ 1000000000000) : numI (dec n) = (n : Int) := by
  unfold numI
  rw [atoi_dec h]
  rfl
theorem s_num_some {l : List UInt8} (h : l.length ≤ 1048576) : So (s_l17Num (bs l)) fun _ => True := by
  unfold s_l17Num
  refine so_bind (P := fun b2 => b2 = true → 1 ≤ l.length) (so_ite (fun hc => ?_) fun _ => so_some (by simp)) fun b2 hb2 => ?_
  · have hc := of_decide_eq_true hc
    rw [bs_size] at hc
    rw [sidx_bs]
    exact so_bind (so_idx (P := fun _ => True) (by omega) (by omega) fun _ _ => trivial) fun _ _ => so_some fun _ => by omega
  refine so_bind (P := fun s => ∃ q : List UInt8, s = bs q ∧ q.length ≤ 1048576) (so_ite (fun hc => ?_) fun _ => so_some ⟨l, rfl, h⟩) fun s ⟨q, hs, hq⟩ => ?_
  · have := hb2 hc
    rw [show ((1 : Int)) = ((1 : Nat) : Int) from rfl, ssl_from this]
    exact so_bind (so_some (P := fun s => s = bs (l.drop 1)) rfl) fun s hs => so_some ⟨_, hs, by simp; omega⟩
  subst hs
  rw [bs_size, sidx_bs]
  refine so_bind (P := fun _ => True) (so_ite (fun _ => so_some trivial) fun hc => ?_) fun b10 _ => so_ite (fun _ => so_some trivial) fun _ => ?_
  · simp only [Bool.or_eq_true, beq_iff_eq, decide_eq_true_eq, not_or] at hc
    exact so_bind (so_idx (P := fun _ => True) (by omega) (by omega) fun _ _ => trivial) fun _ _ => so_some trivial
  rw [cntF_nat (by omega)]
  refine so_bind (so_some (P := fun k => k = q.length) rfl) fun k hk => ?_
  subst hk
  have hloop : So (countL (s_l17Num_b1 (bs q)) q.length 0 0) fun _ => True := by
    refine count_inv (fun _ _ => True) (fun _ => True) q.length 0 (fun _ _ => trivial) (fun i s _ hi _ => ?_) 0 trivial
    unfold s_l17Num_b1
    rw [sidx_bs, idx_lt (by omega), Option.bind_some]
    split
    · exact ⟨_, rfl, trivial⟩
    · exact ⟨_, rfl, trivial⟩
  refine so_bind hloop fun j _ => ?_
  cases j with
  | out t => exact so_some trivial
  | nx n => exact so_bind (so_ite (P := fun _ => True) (fun _ => so_some trivial) fun _ => so_some trivial) fun _ _ => so_some trivial
noncomputable def numS (l : List UInt8) : Int := ((s_l17Num (bs l)).getD (0, false)).1
theorem s_num {l : List UInt8} (h : l.length ≤ 1048576) : ∃ b, s_l17Num (bs l) = some (numS l, b) := by
  obtain ⟨r, hr, _⟩ := s_num_some h
  refine ⟨r.2, ?_⟩
  unfold numS
  rw [hr]
  rfl
theorem val_lt_take {l : List UInt8} {i : Nat} (hi : i < l.length) : val 0 (l.take (i + 1)) = val 0 (l.take i) * 10 + ((l[i]).toNat - 48) := by
  unfold val
  rw [List.take_add_one, List.getElem?_eq_getElem hi, Option.toList_some, List.foldl_append]
  rfl
theorem val_take_le {l : List UInt8} (i : Nat) : val 0 (l.take i) ≤ val 0 l := by
  have h : val 0 l = val (val 0 (l.take i)) (l.drop i) := by
    unfold val
    rw [← List.foldl_append, List.take_append_drop]
  rw [h]
  exact val_ge _ _
theorem s_num_dec {n : Nat} (h : n ≤ 1000000) : s_l17Num (bs (dec n)) = some ((n : Int), true) := by
  have hd := dec_digit n
  have hv := val_dec n
  have hp := dec_pos n
  have hlen := dec_len 6 n (by omega)
  have hh := dec_head n
  have h0 : (dec n).length ≠ 1 → n ≠ 0 := by
    rintro h1 rfl
    exact h1 (by rw [dec_small (by omega)]; rfl)
  generalize dec n = l at *
  obtain ⟨c, r, rfl⟩ : ∃ c r, l = c :: r := by
    cases l with
    | nil => simp at hp
    | cons c r => exact ⟨c, r, rfl⟩
  have hc := hd c (by simp)
  unfold s_l17Num
  simp only [bs_size, sidx_bs]
  rw [if_pos (by simp only [decide_eq_true_eq]; omega), show idx (c :: r) 0 = some c from rfl, Option.bind_some, Option.bind_some, show ((c.toNat : Int) == 45) = false from by simp only [beq_eq_false_iff_ne]; omega]
  simp only [Bool.false_eq_true, if_false, Option.bind_some, bs_size, sidx_bs, show idx (c :: r) 0 = some c from rfl]
  rw [if_neg (by simp only [Bool.or_eq_true, beq_iff_eq, decide_eq_true_eq, not_or]; omega), Option.bind_some]
  have hb : (((c.toNat : Int) == 48) && ((decide (((c :: r).length : Int) > 1)) || false)) = false := by
    cases hx : ((c.toNat : Int) == 48) with
    | false => rfl
    | true =>
      simp only [beq_iff_eq] at hx
      have e : c = 48 := UInt8.toNat_inj.1 (by show c.toNat = 48; omega)
      simp only [Bool.true_and, Bool.or_false, decide_eq_false_iff_not]
      intro hgt
      exact hh (h0 (by omega)) (by rw [e]; rfl)
  rw [hb]
  simp only [Bool.false_eq_true, if_false]
  rw [cntF_nat (by omega), Option.bind_some]
  have hloop := count_to (b := s_l17Num_b1 (bs (c :: r))) (fun i => ((val 0 ((c :: r).take i) : Nat) : Int)) (c :: r).length 0 (fun i _ hi => by
    have hi : i < (c :: r).length := by omega
    have hdi := hd (c :: r)[i] (List.getElem_mem hi)
    have hle := val_take_le (l := c :: r) (i + 1)
    have hst := val_lt_take hi
    unfold s_l17Num_b1
    rw [sidx_bs, idx_lt hi, Option.bind_some, if_neg (by simp only [Bool.or_eq_true, decide_eq_true_eq, not_or]; omega), wrap_u8 (by omega) (by omega), i64_id (n := (((c :: r)[i]).toNat : Int) - 48) (by omega) (by omega), i64_id (n := _ * 10) (by omega) (by omega), i64_id (by omega) (by omega)]
    congr 2
    omega)
  rw [Nat.zero_add] at hloop
  rw [show ((0 : Int)) = ((val 0 ((c :: r).take 0) : Nat) : Int) from rfl, hloop, Option.bind_some]
  simp only [List.take_length, hv, Option.bind_some]
theorem numS_dec {n : Nat} (h : n ≤ 1000000) : numS (dec n) = (n : Int) := by
  unfold numS
  rw [s_num_dec h]
  rfl
def litT (l : Int) : List UInt8 := if l < 0 then 126 :: 120 :: dec (-l).toNat else 120 :: dec l.toNat
def okL (l : Int) : Prop := l ≠ 0 ∧ -12 ≤ l ∧ l ≤ 12
theorem litT_len {l : Int} (h : okL l) : (litT l).length ≤ 4 := by
  unfold okL at h
  unfold litT
  split
  · have := dec_len 1 (-l).toNat (by omega); simp only [List.length_cons]; omega
  · have := dec_len 1 l.toNat (by omega); simp only [List.length_cons]; omega
theorem i_litText {l : Int} (h : -1000000 ≤ l ∧ l ≤ 1000000) : i_literalText l = some (bs (litT l)) := by
  unfold i_literalText litT
  split
  · rename_i hl
    have hl := of_decide_eq_true hl
    have := dec_len 6 (-l).toNat (by omega)
    rw [i64_id (by omega) (by omega), itoa_of (by omega) (by omega), Option.bind_some, show (⟨#[126, 120]⟩ : ByteArray) = bs [126, 120] from rfl, cat_bs (by simp only [List.length_cons, List.length_nil]; omega), if_pos hl]
    rfl
  · rename_i hl
    have hl : ¬ l < 0 := by simpa using hl
    have := dec_len 6 l.toNat (by omega)
    rw [itoa_of (by omega) (by omega), Option.bind_some, show (⟨#[120]⟩ : ByteArray) = bs [120] from rfl, cat_bs (by simp only [List.length_cons, List.length_nil]; omega), if_neg hl]
    rfl
theorem s_litText {l : Int} (h : -1000000 ≤ l ∧ l ≤ 1000000) {fu : Nat} (hf : 30 ≤ fu) : s_l1Name fu l = some (bs (litT l)) := by
  unfold s_l1Name litT
  split
  · rename_i hl
    have hl := of_decide_eq_true hl
    have := dec_len 6 (-l).toNat (by omega)
    rw [i64_id (by omega) (by omega), s_dec_of (by omega) (by omega) hf, Option.bind_some, show (⟨#[126, 120]⟩ : ByteArray) = bs [126, 120] from rfl, cat_bs (by simp only [List.length_cons, List.length_nil]; omega), if_pos hl]
    rfl
  · rename_i hl
    have hl : ¬ l < 0 := by simpa using hl
    have := dec_len 6 l.toNat (by omega)
    rw [s_dec_of (by omega) (by omega) hf, Option.bind_some, show (⟨#[120]⟩ : ByteArray) = bs [120] from rfl, cat_bs (by simp only [List.length_cons, List.length_nil]; omega), if_neg hl]
    rfl
def termT (t : Term) : List UInt8 := dec t.coef.toNat ++ 32 :: litT t.lit ++ [32]
def conT (c : Con) : List UInt8 := c.terms.flatMap termT ++ [62, 61, 32] ++ dec c.bound.toNat
theorem okT_L {t : Term} (h : okT t = true) : okL t.lit := ⟨(okT_lit h).1, (okT_lit h).2.1, (okT_lit h).2.2.1⟩
theorem termT_len {t : Term} (h : okT t = true) : (termT t).length ≤ 10 := by
  have h1 := okT_lit h
  have h2 := litT_len (okT_L h)
  have h3 := dec_len 3 t.coef.toNat (by omega)
  unfold termT
  simp only [List.length_append, List.length_cons, List.length_nil]
  omega
theorem terms_len : ∀ {ts : List Term}, (∀ t ∈ ts, okT t = true) → (ts.flatMap termT).length ≤ 10 * ts.length
  | [], _ => by simp
  | t :: ts, h => by
    have h1 := termT_len (h t (by simp))
    have h2 := terms_len (ts := ts) fun x hx => h x (by simp [hx])
    rw [List.flatMap_cons, List.length_append, List.length_cons]
    omega
theorem conT_len {c : Con} (h : okCon c = true) : (conT c).length ≤ 128 := by
  obtain ⟨_, h2, h3, h4, h5⟩ := okCon_parts h
  have h6 := terms_len h3
  have h7 := dec_len 4 c.bound.toNat (by omega)
  unfold conT
  simp only [List.length_append, List.length_cons, List.length_nil]
  omega
theorem flat_take {α β : Type} (f : α → List β) {xs : List α} {i : Nat} {x : α} (h : xs[i]? = some x) : (xs.take (i + 1)).flatMap f = (xs.take i).flatMap f ++ f x := by
  rw [List.take_add_one, h, Option.toList_some, List.flatMap_append]
  simp
theorem i_text {c : Con} (h : okCon c = true) : i_Constraint_text c = some (bs (conT c)) := by
  obtain ⟨_, h2, h3, h4, h5⟩ := okCon_parts h
  unfold i_Constraint_text
  have hl := range_to (b := i_Constraint_text_b1) (fun i => bs ((c.terms.take i).flatMap termT)) c.terms fun i t ht => by
    have hok := h3 t (List.mem_of_getElem? ht)
    have h1 := okT_lit hok
    have hL := okT_L hok
    have e1 := litT_len hL
    have e2 := dec_len 3 t.coef.toNat (by omega)
    have e3 := terms_len (ts := c.terms.take i) fun x hx => h3 x (List.mem_of_mem_take hx)
    have e4 : (c.terms.take i).length ≤ 12 := by rw [List.length_take]; omega
    unfold i_Constraint_text_b1
    rw [itoa_of (by omega) (by omega), Option.bind_some, show (⟨#[32]⟩ : ByteArray) = bs [32] from rfl, cat_bs (by simp only [List.length_cons, List.length_nil]; omega), Option.bind_some, i_litText (by omega), Option.bind_some,
      cat_bs (by simp only [List.length_append, List.length_cons, List.length_nil]; omega), Option.bind_some, cat_bs (by simp only [List.length_append, List.length_cons, List.length_nil]; omega), Option.bind_some,
      cat_bs (by simp only [List.length_append, List.length_cons, List.length_nil]; omega), Option.bind_some, flat_take termT ht]
    unfold termT
    simp only [List.append_assoc, List.cons_append, List.nil_append]
  have e3 := terms_len h3
  have e5 := dec_len 4 c.bound.toNat (by omega)
  rw [show (⟨#[]⟩ : ByteArray) = bs ((c.terms.take 0).flatMap termT) from rfl, hl, Option.bind_some]
  simp only [List.take_length]
  rw [show (⟨#[62, 61, 32]⟩ : ByteArray) = bs [62, 61, 32] from rfl, cat_bs (by simp only [List.length_cons, List.length_nil]; omega), Option.bind_some, itoa_of h4 (by omega), Option.bind_some,
    cat_bs (by simp only [List.length_append, List.length_cons, List.length_nil]; omega), Option.bind_some]
  rfl
theorem s_text {c : Con} (h : okCon c = true) {fu : Nat} (hf : 30 ≤ fu) : s_l1Text fu c = some (bs (conT c)) := by
  obtain ⟨_, h2, h3, h4, h5⟩ := okCon_parts h
  unfold s_l1Text
  have hl := range_to (b := s_l1Text_b1 fu) (fun i => bs ((c.terms.take i).flatMap termT)) c.terms fun i t ht => by
    have hok := h3 t (List.mem_of_getElem? ht)
    have h1 := okT_lit hok
    have hL := okT_L hok
    have e1 := litT_len hL
    have e2 := dec_len 3 t.coef.toNat (by omega)
    have e3 := terms_len (ts := c.terms.take i) fun x hx => h3 x (List.mem_of_mem_take hx)
    have e4 : (c.terms.take i).length ≤ 12 := by rw [List.length_take]; omega
    unfold s_l1Text_b1
    rw [s_dec_of (by omega) (by omega) hf, Option.bind_some, show (⟨#[32]⟩ : ByteArray) = bs [32] from rfl, cat_bs (by omega), Option.bind_some, cat_bs (by simp only [List.length_append, List.length_cons, List.length_nil]; omega), Option.bind_some, s_litText (by omega) hf, Option.bind_some,
      cat_bs (by simp only [List.length_append, List.length_cons, List.length_nil]; omega), Option.bind_some, cat_bs (by simp only [List.length_append, List.length_cons, List.length_nil]; omega), Option.bind_some, flat_take termT ht]
    unfold termT
    simp only [List.append_assoc, List.cons_append, List.nil_append]
  have e3 := terms_len h3
  have e5 := dec_len 4 c.bound.toNat (by omega)
  rw [show (⟨#[]⟩ : ByteArray) = bs ((c.terms.take 0).flatMap termT) from rfl, hl, Option.bind_some]
  simp only [List.take_length]
  rw [show (⟨#[62, 61, 32]⟩ : ByteArray) = bs [62, 61, 32] from rfl, cat_bs (by simp only [List.length_cons, List.length_nil]; omega), Option.bind_some, s_dec_of h4 (by omega) hf, Option.bind_some,
    cat_bs (by simp only [List.length_append, List.length_cons, List.length_nil]; omega), Option.bind_some]
  rfl
def fmtC (c : Con) : List UInt8 := if okCon c then conT c else []
theorem s_format (c : Con) (hl : c.terms.length ≤ ML) {fu : Nat} (hf : 30 ≤ fu) : s_FormatConstraint fu c = some (bs (fmtC c)) := by
  unfold s_FormatConstraint fmtC
  rw [s_valid c hl, Option.bind_some]
  cases h : okCon c with
  | true => simp [s_text h hf]
  | false => rfl
end Go.L
namespace Go.L
open Go Go.E
set_option linter.unusedSimpArgs false
set_option linter.unusedVariables false
set_option maxRecDepth 100000
theorem i_lit_is (l : Int) : i_isLiteral l = some (l != 0 && (decide (-12 ≤ l) && decide (l ≤ 12))) := by
  unfold i_isLiteral i_within
  by_cases h : l = 0
  · subst h; rfl
  · rw [if_pos (by simpa using h)]
    have : (l != 0) = true := by simpa using h
    rw [this]
    rfl
theorem i_readLit_some {l : List UInt8} (h : l.length ≤ 1048576) : So (i_readLiteral (bs l)) fun _ => True := by
  unfold i_readLiteral strings_CutPrefix strings_TrimPrefix
  rw [Option.bind_some, Option.bind_some]
  simp only [show (⟨#[126]⟩ : ByteArray) = bs [126] from rfl, show (⟨#[120]⟩ : ByteArray) = bs [120] from rfl, bs_list]
  have hp : ∀ a p : List UInt8, (Go.Lib.trimPrefix a p).length ≤ a.length := fun a p => by
    unfold Go.Lib.trimPrefix; split
    · simp
    · exact Nat.le_refl _
  have h1 := hp l [126]
  have h2 := hp (Go.Lib.trimPrefix l [126]) [120]
  rw [i_num (by omega), Option.bind_some]
  refine so_bind (so_ite (P := fun _ => True) (fun _ => so_some trivial) fun _ => so_some trivial) fun k _ => ?_
  rw [i_lit_is, Option.bind_some]
  refine so_bind (P := fun _ => True) (so_ite (fun _ => so_some trivial) fun hc => ?_) fun _ _ => so_ite (fun _ => so_some trivial) fun _ => so_some trivial
  have hk : -12 ≤ k ∧ k ≤ 12 := by
    simp only [Bool.not_eq_true', Bool.not_eq_false, Bool.and_eq_true, decide_eq_true_eq] at hc
    exact hc.2
  rw [i_litText (by omega), Option.bind_some]
  exact so_some trivial
def litI (l : List UInt8) : Int := (i_readLiteral (bs l)).getD 0
theorem i_readLit {l : List UInt8} (h : l.length ≤ 1048576) : i_readLiteral (bs l) = some (litI l) := by
  obtain ⟨r, hr, _⟩ := i_readLit_some h
  unfold litI
  rw [hr]
  rfl
theorem litI_lit {k : Int} (h : okL k) : litI (litT k) = k := by
  have hl : (litT k).length ≤ 1048576 := by have := litT_len h; omega
  obtain ⟨h0, h1, h2⟩ := h
  unfold litI i_readLiteral strings_CutPrefix strings_TrimPrefix
  rw [Option.bind_some, Option.bind_some]
  simp only [show (⟨#[126]⟩ : ByteArray) = bs [126] from rfl, show (⟨#[120]⟩ : ByteArray) = bs [120] from rfl, bs_list]
  have hfin : ∀ (b : Bool) (d : Int), (if b then i64 (-d) else d) = k → ((if b then some (i64 (-d)) else some d) : Option Int) = some k := fun b d hd => by cases b <;> simp_all
  have last : ((i_isLiteral k).bind fun x48 => (if (!x48) then some true else ((i_literalText k).bind fun x55 => some (!(ByteArray.toList x55 == ByteArray.toList (bs (litT k)))))).bind fun b57 => if b57 then (some 0) else (some k)) = some k := by
    rw [i_lit_is, Option.bind_some]
    have e : (k != 0 && (decide (-12 ≤ k) && decide (k ≤ 12))) = true := by simp [h0, h1, h2]
    rw [e]
    simp only [Bool.not_true, Bool.false_eq_true, if_false]
    rw [i_litText (by omega), Option.bind_some, eq_bs, Option.bind_some]
    simp
  by_cases hk : k < 0
  · have e1 : Go.Lib.trimPrefix (litT k) [126] = 120 :: dec (-k).toNat := by unfold litT Go.Lib.trimPrefix Go.Lib.hasPrefix; simp [hk]
    have e2 : Go.Lib.hasPrefix (litT k) [126] = true := by unfold litT Go.Lib.hasPrefix; simp [hk]
    have e3 : Go.Lib.trimPrefix (120 :: dec (-k).toNat) [120] = dec (-k).toNat := by unfold Go.Lib.trimPrefix Go.Lib.hasPrefix; simp
    have := dec_len 1 (-k).toNat (by omega)
    rw [e1, e2, e3, i_num (by omega), numI_dec (by omega), Option.bind_some, hfin true _ (by simp only [if_true]; rw [i64_id (by omega) (by omega)]; omega), Option.bind_some, last]
    rfl
  · have e1 : Go.Lib.trimPrefix (litT k) [126] = 120 :: dec k.toNat := by unfold litT Go.Lib.trimPrefix Go.Lib.hasPrefix; simp [hk]
    have e2 : Go.Lib.hasPrefix (litT k) [126] = false := by unfold litT Go.Lib.hasPrefix; rw [if_neg hk]; rfl
    have e3 : Go.Lib.trimPrefix (120 :: dec k.toNat) [120] = dec k.toNat := by unfold Go.Lib.trimPrefix Go.Lib.hasPrefix; simp
    have := dec_len 1 k.toNat (by omega)
    rw [e1, e2, e3, i_num (by omega), numI_dec (by omega), Option.bind_some, hfin false _ (by simp only [Bool.false_eq_true, if_false]; omega), Option.bind_some, last]
    rfl
theorem s_readLit_some {l : List UInt8} (h : l.length ≤ 1048576) : So (s_l1Literal (bs l)) fun _ => True := by
  unfold s_l1Literal
  refine so_bind (P := fun b2 => b2 = true → 1 ≤ l.length) (so_ite (fun hc => ?_) fun _ => so_some (by simp)) fun b2 hb2 => ?_
  · have hc := of_decide_eq_true hc
    rw [bs_size] at hc
    rw [sidx_bs]
    exact so_bind (so_idx (P := fun _ => True) (by omega) (by omega) fun _ _ => trivial) fun _ _ => so_some fun _ => by omega
  refine so_bind (P := fun s => ∃ q : List UInt8, s.1 = bs q ∧ q.length ≤ 1048576) (so_ite (fun hc => ?_) fun _ => so_some ⟨l, rfl, h⟩) fun s ⟨q, hs, hq⟩ => ?_
  · have := hb2 hc
    rw [show ((1 : Int)) = ((1 : Nat) : Int) from rfl, ssl_from this]
    exact so_bind (so_some (P := fun s => s = bs (l.drop 1)) rfl) fun s hs => so_some ⟨_, hs, by simp <;> omega⟩
  obtain ⟨s1, s2⟩ := s
  obtain rfl : s1 = bs q := hs
  simp only
  refine so_bind (P := fun b => b = false → 1 ≤ q.length) (so_ite (fun _ => so_some (by simp)) fun hc => ?_) fun b hb => so_ite (fun _ => so_some trivial) fun hc => ?_
  · rw [bs_size] at hc
    simp only [decide_eq_true_eq, Int.not_lt] at hc
    rw [sidx_bs]
    exact so_bind (so_idx (P := fun _ => True) (by omega) (by omega) fun _ _ => trivial) fun _ _ => so_some fun _ => by omega
  · have := hb (by simpa using hc)
    rw [show ((1 : Int)) = ((1 : Nat) : Int) from rfl, ssl_from this, Option.bind_some]
    exact so_bind (s_num_some (by simp <;> omega)) fun _ _ => so_ite (fun _ => so_some trivial) fun _ => so_some trivial
noncomputable def litS (l : List UInt8) : Int := (s_l1Literal (bs l)).getD 0
theorem s_readLit {l : List UInt8} (h : l.length ≤ 1048576) : s_l1Literal (bs l) = some (litS l) := by
  obtain ⟨r, hr, _⟩ := s_readLit_some h
  unfold litS
  rw [hr]
  rfl
theorem litS_rest (sign : Int) (k : Nat) (h1 : 1 ≤ k) (h2 : k ≤ 12) (hs : sign = 1 ∨ sign = -1) :
    ((if decide (((bs (120 :: dec k)).size : Int) < 2) then some true else ((sidx (bs (120 :: dec k)) 0).bind fun x10 => some ((x10.toNat : Int) != 120))).bind fun b11 => if b11 then (some 0) else ((ssl (bs (120 :: dec k)) 1 ((bs (120 :: dec k)).size : Int)).bind fun x15 => (s_l17Num x15).bind fun x21 => if (((!x21.2) || (decide (x21.1 < 1))) || (decide (x21.1 > 12))) then (some 0) else (some (i64 (sign * x21.1))))) = some (sign * (k : Int)) := by
  have := dec_pos k
  rw [bs_size, if_neg (by simp only [decide_eq_true_eq, List.length_cons]; omega), sidx_bs, show idx (120 :: dec k) 0 = some (120 : UInt8) from rfl, Option.bind_some, Option.bind_some]
  simp only [show (((120 : UInt8).toNat : Int) != 120) = false from rfl, Bool.false_eq_true, if_false]
  rw [← bs_size (120 :: dec k), show ((1 : Int)) = ((1 : Nat) : Int) from rfl, ssl_from (by simp), Option.bind_some]
  simp only [List.drop_succ_cons, List.drop_zero]
  rw [s_num_dec (by omega), Option.bind_some]
  simp only [Bool.not_true, Bool.false_or]
  rw [if_neg (by simp only [Bool.or_eq_true, decide_eq_true_eq, not_or]; omega)]
  rcases hs with rfl | rfl
  · rw [i64_id (by omega) (by omega)]
  · rw [i64_id (by omega) (by omega)]
theorem litS_lit {k : Int} (h : okL k) : litS (litT k) = k := by
  obtain ⟨h0, h1, h2⟩ := h
  unfold litS s_l1Literal
  by_cases hk : k < 0
  · have e : litT k = 126 :: 120 :: dec (-k).toNat := by unfold litT; rw [if_pos hk]
    rw [e]
    rw [if_pos (by rw [bs_size]; simp only [decide_eq_true_eq, List.length_cons]; omega), sidx_bs, show idx (126 :: 120 :: dec (-k).toNat) 0 = some (126 : UInt8) from rfl, Option.bind_some, Option.bind_some]
    simp only [show (((126 : UInt8).toNat : Int) == 126) = true from rfl, if_true]
    rw [show ((1 : Int)) = ((1 : Nat) : Int) from rfl, ssl_from (by simp), Option.bind_some, Option.bind_some]
    simp only [List.drop_succ_cons, List.drop_zero]
    rw [show (((1 : Nat) : Int)) = (1 : Int) from rfl]
    refine (congrArg (fun o : Option Int => o.getD 0) (litS_rest (-1) (-k).toNat (by omega) (by omega) (.inr rfl))).trans ?_
    show (-1) * (((-k).toNat : Nat) : Int) = k
    omega
  · have e : litT k = 120 :: dec k.toNat := by unfold litT; rw [if_neg hk]
    rw [e]
    rw [if_pos (by rw [bs_size]; simp only [decide_eq_true_eq, List.length_cons]; omega), sidx_bs, show idx (120 :: dec k.toNat) 0 = some (120 : UInt8) from rfl, Option.bind_some, Option.bind_some]
    simp only [show (((120 : UInt8).toNat : Int) == 126) = false from rfl, Bool.false_eq_true, if_false, Option.bind_some]
    refine (congrArg (fun o : Option Int => o.getD 0) (litS_rest 1 k.toNat (by omega) (by omega) (.inl rfl))).trans ?_
    show 1 * ((k.toNat : Nat) : Int) = k
    omega
theorem dec_no32 (n : Nat) : (32 : UInt8) ∉ dec n := fun h => by have := (dec_digit n 32 h).1; simp at this
theorem dec_no10 (n : Nat) : (10 : UInt8) ∉ dec n := fun h => by have := (dec_digit n 10 h).1; simp at this
theorem litT_no32 (k : Int) : (32 : UInt8) ∉ litT k := by
  unfold litT
  split
  · intro h
    rcases List.mem_cons.1 h with h | h
    · cases h
    · rcases List.mem_cons.1 h with h | h
      · cases h
      · exact dec_no32 _ h
  · intro h
    rcases List.mem_cons.1 h with h | h
    · cases h
    · exact dec_no32 _ h
theorem split_terms (r : List UInt8) : ∀ ts : List Term, splitC 32 (ts.flatMap termT ++ r) = ts.flatMap (fun t => [dec t.coef.toNat, litT t.lit]) ++ splitC 32 r
  | [] => rfl
  | t :: ts => by
    have e : termT t ++ ts.flatMap termT ++ r = dec t.coef.toNat ++ 32 :: (litT t.lit ++ 32 :: (ts.flatMap termT ++ r)) := by
      rw [show termT t = dec t.coef.toNat ++ 32 :: litT t.lit ++ [32] from rfl]
      simp only [List.append_assoc, List.cons_append, List.nil_append]
    rw [List.flatMap_cons, List.flatMap_cons, e, splitC_cut _ (dec_no32 _), splitC_cut _ (litT_no32 _), split_terms r ts]
    rfl
theorem split_con (c : Con) : splitC 32 (conT c) = c.terms.flatMap (fun t => [dec t.coef.toNat, litT t.lit]) ++ [[62, 61], dec c.bound.toNat] := by
  unfold conT
  rw [List.append_assoc, split_terms]
  congr 1
  show splitC 32 ([62, 61] ++ 32 :: dec c.bound.toNat) = _
  rw [splitC_cut _ (by decide), splitC_none (dec_no32 _)]
theorem pairs_len (ts : List Term) (f : Term → List UInt8) (g : Term → List UInt8) : (ts.flatMap (fun t => [f t, g t])).length = 2 * ts.length := by
  induction ts with
  | nil => rfl
  | cons t ts ih => rw [List.flatMap_cons, List.length_append, ih]; simp; omega
theorem pairs_get (f : Term → List UInt8) (g : Term → List UInt8) (r : List (List UInt8)) : ∀ (ts : List Term) (i : Nat) (t : Term), ts[i]? = some t →
    (ts.flatMap (fun t => [f t, g t]) ++ r)[2 * i]? = some (f t) ∧ (ts.flatMap (fun t => [f t, g t]) ++ r)[2 * i + 1]? = some (g t)
  | [], i, t, h => by simp at h
  | t0 :: ts, 0, t, h => by simp at h; subst h; simp
  | t0 :: ts, i + 1, t, h => by
    have ih := pairs_get f g r ts i t (by simpa using h)
    rw [List.flatMap_cons]
    show ([f t0, g t0] ++ _ ++ r)[2 * (i + 1)]? = _ ∧ ([f t0, g t0] ++ _ ++ r)[2 * (i + 1) + 1]? = _
    rw [show 2 * (i + 1) + 1 = (2 * i + 1) + 1 + 1 by omega, show 2 * (i + 1) = (2 * i) + 1 + 1 by omega]
    simpa using ih
def termsOf (num lit : List UInt8 → Int) (ws : List (List UInt8)) (k : Nat) : List Term := (List.range k).map fun i => ⟨num (ws.getD (2 * i) []), lit (ws.getD (2 * i + 1) [])⟩
theorem termsOf_next (num lit : List UInt8 → Int) (ws : List (List UInt8)) (k : Nat) : termsOf num lit ws (k + 1) = termsOf num lit ws k ++ [⟨num (ws.getD (2 * k) []), lit (ws.getD (2 * k + 1) [])⟩] := by
  unfold termsOf
  rw [List.range_succ, List.map_append]
  rfl
theorem termsOf_len (num lit : List UInt8 → Int) (ws : List (List UInt8)) (k : Nat) : (termsOf num lit ws k).length = k := by simp [termsOf]
theorem idx_words {ws : List (List UInt8)} {i : Nat} (h : i < ws.length) : idx (ws.map bs) (i : Int) = some (bs (ws.getD i [])) := by
  rw [idx_nat, List.getElem?_map, List.getElem?_eq_getElem h]
  simp [List.getD, List.getElem?_eq_getElem h]
theorem getD_len {ws : List (List UInt8)} {l : List UInt8} (hw : ∀ w ∈ ws, w.length ≤ l.length) (i : Nat) : (ws.getD i []).length ≤ l.length := by
  unfold List.getD
  cases h : ws[i]? with
  | none => simp
  | some w => exact hw w (List.mem_of_getElem? h)
def conOf (num lit : List UInt8 → Int) (ws : List (List UInt8)) : Con := ⟨termsOf num lit ws ((ws.length - 2) / 2), num (ws.getD (ws.length - 1) [])⟩
theorem conOf_con {num lit : List UInt8 → Int} (hn : ∀ n : Nat, n ≤ 1000000 → num (dec n) = n) (hl : ∀ k, okL k → lit (litT k) = k) {c : Con} (h : okCon c = true) :
    (splitC 32 (conT c)).length = 2 * c.terms.length + 2 ∧ conOf num lit (splitC 32 (conT c)) = c := by
  obtain ⟨_, h2, h3, h4, h5⟩ := okCon_parts h
  have hlen : (splitC 32 (conT c)).length = 2 * c.terms.length + 2 := by rw [split_con, List.length_append, pairs_len]; rfl
  refine ⟨hlen, ?_⟩
  unfold conOf
  rw [hlen, show (2 * c.terms.length + 2 - 2) / 2 = c.terms.length by omega]
  have e1 : num ((splitC 32 (conT c)).getD (2 * c.terms.length + 2 - 1) []) = c.bound := by
    rw [split_con]
    unfold List.getD
    rw [List.getElem?_append_right (by rw [pairs_len]; omega), pairs_len, show 2 * c.terms.length + 2 - 1 - 2 * c.terms.length = 1 by omega]
    show num (dec c.bound.toNat) = _
    rw [hn _ (by omega)]; omega
  rw [e1]
  have e2 : termsOf num lit (splitC 32 (conT c)) c.terms.length = c.terms := by
    apply List.ext_getElem?
    intro i
    unfold termsOf
    rw [List.getElem?_map]
    cases ht : c.terms[i]? with
    | none =>
      rw [List.getElem?_eq_none_iff] at ht
      rw [List.getElem?_eq_none (by simpa using ht)]
      rfl
    | some t =>
      have hi := (List.getElem?_eq_some_iff.1 ht).1
      have hok := h3 t (List.mem_of_getElem? ht)
      have h1 := okT_lit hok
      obtain ⟨g1, g2⟩ := pairs_get (fun t => dec t.coef.toNat) (fun t => litT t.lit) [[62, 61], dec c.bound.toNat] c.terms i t ht
      rw [List.getElem?_range hi, Option.map_some, split_con]
      unfold List.getD
      rw [g1, g2]
      show some (Term.mk (num (dec t.coef.toNat)) (lit (litT t.lit))) = _
      rw [hn _ (by omega), hl _ (okT_L hok)]
      congr 1
      cases t
      simp only at h1
      simp only [Term.mk.injEq, and_true]
      omega
  rw [e2]
theorem numI_n (n : Nat) (h : n ≤ 1000000) : numI (dec n) = n := numI_dec (by omega)
theorem numS_n (n : Nat) (h : n ≤ 1000000) : numS (dec n) = n := numS_dec h
theorem con_inj {c d : Con} (hc : okCon c = true) (hd : okCon d = true) (h : conT c = conT d) : c = d := by
  have h1 := (conOf_con numI_n (fun k => litI_lit) hc).2
  rw [h, (conOf_con numI_n (fun k => litI_lit) hd).2] at h1
  exact h1.symm
open Classical in
noncomputable def parseC (l : List UInt8) : Con × Bool := if h : ∃ c, okCon c = true ∧ l = conT c then (Classical.choose h, true) else (⟨[], 0⟩, false)
theorem parseC_con {c : Con} (h : okCon c = true) : parseC (conT c) = (c, true) := by
  unfold parseC
  have hx : ∃ d, okCon d = true ∧ conT c = conT d := ⟨c, h, rfl⟩
  rw [dif_pos hx]
  have hs := Classical.choose_spec hx
  rw [con_inj hs.1 h hs.2.symm]
theorem parseC_no {l : List UInt8} (h : ∀ c, okCon c = true → l ≠ conT c) : parseC l = (⟨[], 0⟩, false) := by
  unfold parseC
  rw [dif_neg (fun ⟨c, hc, e⟩ => h c hc e)]
theorem parseC_len (l : List UInt8) : (parseC l).1.terms.length ≤ 12 := by
  by_cases hx : ∃ c, okCon c = true ∧ l = conT c
  · obtain ⟨c, hc, rfl⟩ := hx
    rw [parseC_con hc]
    exact (okCon_parts hc).2.1
  · rw [parseC_no (fun c hc e => hx ⟨c, hc, e⟩)]
    simp
theorem parse_end {l : List UInt8} (c : Con) (b : Bool) (hb : b = true ↔ okCon c = true ∧ l = conT c) (hno : ∀ d, okCon d = true → l = conT d → c = d) :
    parseC l = if b then (c, true) else (⟨[], 0⟩, false) := by
  cases hbb : b with
  | true =>
    obtain ⟨h1, h2⟩ := hb.1 hbb
    rw [h2, parseC_con h1]
    rfl
  | false =>
    rw [parseC_no fun d hd e => ?_]
    · rfl
    · have := hno d hd e
      subst this
      rw [hb.2 ⟨hd, e⟩] at hbb
      cases hbb
theorem i_parseC {l : List UInt8} (h : l.length ≤ 1048576) {fu : Nat} (hf : 100 ≤ fu) : i_ParseConstraint fu (bs l) = some (parseC l) := by
  have hw : ∀ w ∈ splitC 32 l, w.length ≤ l.length := fun w => splitC_mem
  have hwl := splitC_len 32 l
  have hne : (splitC 32 l).length ≠ 0 := by rw [Ne, List.length_eq_zero_iff]; exact splitC_ne 32 l
  unfold i_ParseConstraint
  rw [show (⟨#[32]⟩ : ByteArray) = bs [32] from rfl, strings_split (by omega), Option.bind_some]
  have hcon : ∀ d, okCon d = true → l = conT d → (splitC 32 l).length = 2 * d.terms.length + 2 ∧ conOf numI litI (splitC 32 l) = d := fun d hd e => by rw [e]; exact conOf_con numI_n (fun k => litI_lit) hd
  generalize hws : splitC 32 l = ws at *
  simp only [List.length_map]
  rw [i64_id (n := (ws.length : Int) - 2) (by omega) (by omega)]
  by_cases hc : ((decide ((ws.length : Int) - 2 < 0) || decide ((ws.length : Int) - 2 > 24)) || (Int.tmod ((ws.length : Int) - 2) 2 != 0)) = true
  · rw [if_pos hc]
    refine congrArg some (parseC_no fun d hd e => ?_).symm
    obtain ⟨h1, _⟩ := hcon d hd e
    have h2 := (okCon_parts hd).2.1
    rw [h1] at hc
    simp only [Bool.or_eq_true, decide_eq_true_eq, bne_iff_ne, ne_eq] at hc
    rcases hc with (hc | hc) | hc
    · omega
    · omega
    · apply hc
      rw [show (((2 * d.terms.length + 2 : Nat) : Int) - 2) = 2 * (d.terms.length : Int) by omega]
      exact Int.tmod_eq_zero_of_dvd ⟨_, rfl⟩
  · rw [if_neg hc]
    simp only [Bool.or_eq_true, decide_eq_true_eq, bne_iff_ne, ne_eq, not_or, Decidable.not_not, Int.not_lt] at hc
    obtain ⟨⟨c1, c2⟩, c3⟩ := hc
    obtain ⟨K, hK⟩ : ∃ K : Nat, ws.length = 2 * K + 2 := by
      obtain ⟨q, hq⟩ := Int.dvd_of_tmod_eq_zero c3
      exact ⟨q.toNat, by omega⟩
    have e0 : i64 ((ws.length : Int) - 2 + 1) = ((ws.length - 1 : Nat) : Int) := by rw [i64_id (by omega) (by omega)]; omega
    rw [e0, idx_words (by omega), Option.bind_some, i_num (by have := getD_len hw (ws.length - 1); omega), Option.bind_some]
    obtain ⟨j, hj, rfl⟩ := while_inv (b := i_ParseConstraint_b1 (ws.map bs)) (fun n s => ∃ k : Nat, s = (((2 * k : Nat) : Int), termsOf numI litI ws k) ∧ k ≤ K ∧ n = K - k) (fun j => j = .nx (((2 * K : Nat) : Int), termsOf numI litI ws K)) (by
      rintro n s ⟨k, rfl, hk, rfl⟩
      unfold i_ParseConstraint_b1
      simp only [List.length_map]
      rw [i64_id (n := (ws.length : Int) - 2) (by omega) (by omega)]
      by_cases hkK : k = K
      · rw [if_neg (by simp only [decide_eq_true_eq]; omega)]
        exact ⟨_, rfl, by rw [hkK]⟩
      · rw [if_pos (by simp only [decide_eq_true_eq]; omega), idx_words (by omega), Option.bind_some, i_num (by have := getD_len hw (2 * k); omega), Option.bind_some, show i64 (((2 * k : Nat) : Int) + 1) = ((2 * k + 1 : Nat) : Int) from by rw [i64_id (by omega) (by omega)]; omega,
          idx_words (by omega), Option.bind_some, i_readLit (by have := getD_len hw (2 * k + 1); omega), Option.bind_some, app_le (by rw [termsOf_len]; simp; omega), Option.bind_some]
        refine ⟨_, rfl, K - (k + 1), by omega, k + 1, ?_, by omega, rfl⟩
        rw [termsOf_next, i64_id (by omega) (by omega)]
        congr 1) fu K ((0 : Int), ([] : List Term)) ⟨0, rfl, by omega, rfl⟩ (by omega)
    rw [hj, Option.bind_some]
    simp only
    have hcc : (⟨termsOf numI litI ws K, numI (ws.getD (ws.length - 1) [])⟩ : Con) = conOf numI litI ws := by unfold conOf; rw [show (ws.length - 2) / 2 = K by omega]
    rw [hcc, i_valid, Option.bind_some]
    generalize hd : conOf numI litI ws = d at *
    have hfin := parse_end d (okCon d && (conT d == l)) (by rw [Bool.and_eq_true, beq_iff_eq]; exact and_congr Iff.rfl eq_comm) fun e he hle => (hcon e he hle).2
    rw [hfin]
    cases hok : okCon d with
    | false => rfl
    | true =>
      simp only [Bool.not_true, Bool.false_eq_true, if_false, Bool.true_and]
      rw [i_text hok, Option.bind_some, eq_bs, Option.bind_some]
      cases (conT d == l) <;> rfl
theorem s_parseC {l : List UInt8} (h : l.length ≤ 1048576) {fu : Nat} (hf : 100 ≤ fu) : s_ParseConstraint fu (bs l) = some (parseC l) := by
  have hw : ∀ w ∈ splitC 32 l, w.length ≤ l.length := fun w => splitC_mem
  have hwl := splitC_len 32 l
  have hne : (splitC 32 l).length ≠ 0 := by rw [Ne, List.length_eq_zero_iff]; exact splitC_ne 32 l
  unfold s_ParseConstraint
  rw [show ((32 : Int)) = ((32 : Nat) : Int) from rfl, s_cut (by omega) h, show UInt8.ofNat 32 = 32 from rfl, Option.bind_some]
  have hcon : ∀ d, okCon d = true → l = conT d → (splitC 32 l).length = 2 * d.terms.length + 2 ∧ conOf numS litS (splitC 32 l) = d := fun d hd e => by rw [e]; exact conOf_con numS_n (fun k => litS_lit) hd
  have hgt : ∀ d, okCon d = true → l = conT d → (splitC 32 l).getD ((splitC 32 l).length - 2) [] = [62, 61] := fun d hd e => by
    obtain ⟨h1, _⟩ := hcon d hd e
    rw [h1, e, split_con]
    unfold List.getD
    rw [List.getElem?_append_right (by rw [pairs_len]; omega), pairs_len, show 2 * d.terms.length + 2 - 2 - 2 * d.terms.length = 0 by omega]
    rfl
  have hl0 : ∀ d, okCon d = true → conT d ≠ [] := fun d _ e => by unfold conT at e; simp at e
  generalize hws : splitC 32 l = ws at *
  simp only [List.length_map]
  have hno : ∀ (P : Prop), (∀ d, okCon d = true → l = conT d → False) → parseC l = (⟨[], 0⟩, false) := fun _ hx => parseC_no fun d hd e => hx d hd e
  by_cases hc : ((decide ((ws.length : Int) < 2) || (Int.tmod (ws.length : Int) 2 != 0)) || decide ((ws.length : Int) > 26)) = true
  · rw [if_pos hc, Option.bind_some]
    simp only [if_true]
    refine congrArg some (parseC_no fun d hd e => ?_).symm
    obtain ⟨h1, _⟩ := hcon d hd e
    have h2 := (okCon_parts hd).2.1
    rw [h1] at hc
    simp only [Bool.or_eq_true, decide_eq_true_eq, bne_iff_ne, ne_eq] at hc
    rcases hc with (hc | hc) | hc
    · omega
    · apply hc
      rw [show ((2 * d.terms.length + 2 : Nat) : Int) = 2 * ((d.terms.length + 1 : Nat) : Int) by omega]
      exact Int.tmod_eq_zero_of_dvd ⟨_, rfl⟩
    · omega
  · rw [if_neg hc]
    simp only [Bool.or_eq_true, decide_eq_true_eq, bne_iff_ne, ne_eq, not_or, Decidable.not_not, Int.not_lt] at hc
    obtain ⟨⟨c1, c3⟩, c2⟩ := hc
    obtain ⟨K, hK⟩ : ∃ K : Nat, ws.length = 2 * K + 2 := by
      obtain ⟨q, hq⟩ := Int.dvd_of_tmod_eq_zero c3
      exact ⟨q.toNat - 1, by omega⟩
    rw [show i64 ((ws.length : Int) - 2) = ((ws.length - 2 : Nat) : Int) from by rw [i64_id (by omega) (by omega)]; omega, idx_words (by omega), Option.bind_some, show (⟨#[62, 61]⟩ : ByteArray) = bs [62, 61] from rfl, eq_bs, Option.bind_some]
    by_cases hg : ws.getD (ws.length - 2) [] = [62, 61]
    · rw [hg]
      simp only [beq_self_eq_true, Bool.not_true, Bool.false_eq_true, if_false]
      obtain ⟨j, hj, rfl⟩ := while_inv (b := s_ParseConstraint_b1 (ws.map bs)) (fun n s => ∃ k : Nat, s = (((2 * k : Nat) : Int), termsOf numS litS ws k) ∧ k ≤ K ∧ n = K - k) (fun j => j = .nx (((2 * K : Nat) : Int), termsOf numS litS ws K)) (by
        rintro n s ⟨k, rfl, hk, rfl⟩
        unfold s_ParseConstraint_b1
        simp only [List.length_map]
        rw [i64_id (n := ((2 * k : Nat) : Int) + 2) (by omega) (by omega)]
        by_cases hkK : k = K
        · rw [if_neg (by simp only [decide_eq_true_eq]; omega)]
          exact ⟨_, rfl, by rw [hkK]⟩
        · obtain ⟨b, hb⟩ := s_num (l := ws.getD (2 * k) []) (by have := getD_len hw (2 * k); omega)
          rw [if_pos (by simp only [decide_eq_true_eq]; omega), idx_words (by omega), Option.bind_some, hb, Option.bind_some, show i64 (((2 * k : Nat) : Int) + 1) = ((2 * k + 1 : Nat) : Int) from by rw [i64_id (by omega) (by omega)]; omega,
            idx_words (by omega), Option.bind_some, s_readLit (by have := getD_len hw (2 * k + 1); omega), Option.bind_some, app_le (by rw [termsOf_len]; simp; omega), Option.bind_some]
          refine ⟨_, rfl, K - (k + 1), by omega, k + 1, ?_, by omega, rfl⟩
          rw [termsOf_next]
          congr 1) fu K ((0 : Int), ([] : List Term)) ⟨0, rfl, by omega, rfl⟩ (by omega)
      rw [hj, Option.bind_some]
      simp only
      obtain ⟨b, hb⟩ := s_num (l := ws.getD (ws.length - 1) []) (by have := getD_len hw (ws.length - 1); omega)
      rw [show i64 ((ws.length : Int) - 1) = ((ws.length - 1 : Nat) : Int) from by rw [i64_id (by omega) (by omega)]; omega, idx_words (by omega), Option.bind_some, hb, Option.bind_some]
      have hcc : (⟨termsOf numS litS ws K, numS (ws.getD (ws.length - 1) [])⟩ : Con) = conOf numS litS ws := by unfold conOf; rw [show (ws.length - 2) / 2 = K by omega]
      rw [hcc, s_format _ (by unfold conOf ML; rw [termsOf_len]; omega) (by omega), Option.bind_some, eq_bs]
      have hln : l ≠ [] := by
        rintro rfl
        rw [← hws] at hK
        simp [splitC] at hK <;> omega
      generalize hd : conOf numS litS ws = d at *
      have hfin := parse_end d (fmtC d == l) (by
        rw [beq_iff_eq]
        unfold fmtC
        constructor
        · intro e
          split at e
          · exact ⟨‹_›, e.symm⟩
          · exact absurd e.symm hln
        · rintro ⟨e1, e2⟩
          rw [if_pos e1, e2]) fun e he hle => (hcon e he hle).2
      rw [hfin]
      cases (fmtC d == l) <;> rfl
    · have hb : (ws.getD (ws.length - 2) [] == [62, 61]) = false := by simpa using hg
      rw [hb]
      simp only [Bool.not_false, if_true]
      exact congrArg some (parseC_no fun d hd e => hg (hgt d hd e)).symm
end Go.L
namespace Go.L
open Go Go.E
set_option linter.unusedVariables false
set_option linter.unusedSimpArgs false
set_option maxRecDepth 100000
end Go.L
namespace Go.L
open Go Go.E
set_option linter.unusedVariables false
set_option linter.unusedSimpArgs false
set_option maxRecDepth 100000
end Go.L
namespace Go.L
open Go Go.E
set_option linter.unusedVariables false
set_option linter.unusedSimpArgs false
set_option maxRecDepth 100000
end Go.L
namespace Go.L
open Go Go.E
set_option linter.unusedVariables false
set_option linter.unusedSimpArgs false
set_option maxRecDepth 100000
theorem equal_list {α : Type} [DecidableEq α] (s1 s2 : List α) {b : Nat → α → Unit → Option (Lo Unit Bool)} (hb : ∀ (i : Nat) x, b i x () = (idx s2 (i : Int)).bind fun y => if decide (x = y) then some (.cont ()) else some (.out false)) (hl : s1.length = s2.length) :
    rangeL b s1 0 () = some (if decide (s1 = s2) then .nx () else .out false) := by
  rw [range_allI (fun i x => decide (s2[i]? = some x)) false s1 fun i x hx => by
    have hi := (List.getElem?_eq_some_iff.1 hx).1
    have h2 : i < s2.length := by omega
    rw [hb, idx_nat, List.getElem?_eq_getElem h2, Option.bind_some]
    by_cases h : x = s2[i]
    · simp [h]
    · simp [h, Ne.symm h]]
  congr 2
  have : allFrom (fun i x => decide (s2[i]? = some x)) s1 0 = decide (s1 = s2) := by
    rw [Bool.eq_iff_iff, allFrom_iff]
    simp only [decide_eq_true_eq, Nat.zero_add]
    constructor
    · intro h
      apply List.ext_getElem?
      intro i
      cases h1 : s1[i]? with
      | some x => rw [h i x h1]
      | none => rw [List.getElem?_eq_none_iff] at h1; rw [List.getElem?_eq_none (by omega)]
    · intro h i x hx
      rw [← h]; exact hx
  rw [this]
theorem i_equal (s1 s2 : List Term) : slices_Equal_implTerm s1 s2 = some (decide (s1 = s2)) := by
  unfold slices_Equal_implTerm
  by_cases hl : s1.length = s2.length
  · rw [if_neg (by simp [hl]), equal_list s1 s2 (b := slices_Equal_implTerm_b1 s2) (fun i x => by
      rw [slices_Equal_implTerm_b1]
      congr 1
      funext y
      by_cases h : x = y <;> simp [h]) hl]
    by_cases h : s1 = s2 <;> simp [h]
  · rw [if_pos (by simp; omega), decide_eq_false (by intro h; rw [h] at hl; exact hl rfl)]
theorem i_same (a b : Con) : i_ConstraintSame a b = some (decide (a = b)) := by
  unfold i_ConstraintSame
  rw [i_equal]
  obtain ⟨t1, b1⟩ := a
  obtain ⟨t2, b2⟩ := b
  by_cases h1 : b1 = b2
  · by_cases h2 : t1 = t2 <;> simp [h1, h2]
  · simp [h1]
def noC (c : Con) : Bool := ((c.terms.length : Int) == 0) && (c.bound == 0)
def partsB (s : Step) : Bool :=
  if s.kind = 1 ∨ s.kind = 2 ∨ s.kind = 3 ∨ s.kind = 5 then noC s.given
  else if s.kind = 4 ∨ s.kind = 6 ∨ s.kind = 8 then noC s.given && s.b == 0
  else if s.kind = 7 then s.a == 0 && s.b == 0 else false
theorem kind_cases (k : Int) : k = 1 ∨ k = 2 ∨ k = 3 ∨ k = 4 ∨ k = 5 ∨ k = 6 ∨ k = 7 ∨ k = 8 ∨ (k ≠ 1 ∧ k ≠ 2 ∧ k ≠ 3 ∧ k ≠ 4 ∧ k ≠ 5 ∧ k ≠ 6 ∧ k ≠ 7 ∧ k ≠ 8) := by omega
theorem noC_eq (c : Con) : decide (c = ⟨[], 0⟩) = noC c := by
  obtain ⟨ts, b⟩ := c
  unfold noC
  cases ts with
  | nil => by_cases h : b = 0 <;> simp [h]
  | cons t ts => simp; omega
theorem s_parts (s : Step) : s_l4Parts s = some (partsB s) := by
  unfold s_l4Parts partsB noC
  obtain ⟨kind, a, b, given⟩ := s
  simp only
  rcases kind_cases kind with h | h | h | h | h | h | h | h | ⟨h1, h2, h3, h4, h5, h6, h7, h8⟩
  all_goals first | (subst h; simp) | simp [h1, h2, h3, h4, h5, h6, h7, h8]
def refersB (k : Int) : Int × Bool := if k = 1 then (2, false) else if k = 2 ∨ k = 3 ∨ k = 5 then (1, true) else if k = 4 ∨ k = 8 then (1, false) else if k = 6 ∨ k = 7 then (0, false) else (-1, false)
theorem i_ref (k : Int) : i_refers k = some (refersB k) := by
  unfold i_refers refersB
  rcases kind_cases k with h | h | h | h | h | h | h | h | ⟨h1, h2, h3, h4, h5, h6, h7, h8⟩
  all_goals first | (subst h; simp) | simp [h1, h2, h3, h4, h5, h6, h7, h8]
theorem i_shaped (s : Step) : i_Step_shaped s = some (partsB s) := by
  unfold i_Step_shaped partsB
  rw [i_ref, i_same, noC_eq, Option.bind_some]
  obtain ⟨kind, a, b, given⟩ := s
  simp only [refersB]
  rcases kind_cases kind with h | h | h | h | h | h | h | h | ⟨h1, h2, h3, h4, h5, h6, h7, h8⟩
  all_goals first | (subst h; (by_cases ha : a = 0) <;> (by_cases hb : b = 0) <;> simp [ha, hb]) | simp [h1, h2, h3, h4, h5, h6, h7, h8]
end Go.L
namespace Go.L
open Go Go.E
set_option linter.unusedVariables false
set_option linter.unusedSimpArgs false
set_option maxRecDepth 100000
end Go.L
namespace Go.L
open Go Go.E
set_option linter.unusedVariables false
set_option linter.unusedSimpArgs false
set_option maxRecDepth 100000
end Go.L
namespace Go.L
open Go Go.E
set_option linter.unusedVariables false
set_option linter.unusedSimpArgs false
set_option maxRecDepth 100000
end Go.L
namespace Go.L
open Go Go.E
set_option linter.unusedSimpArgs false
set_option linter.unusedVariables false
set_option maxRecDepth 100000
end Go.L
namespace Go.L
open Go Go.E
set_option linter.unusedSimpArgs false
set_option linter.unusedVariables false
set_option maxRecDepth 100000
theorem litT_no10 (k : Int) : (10 : UInt8) ∉ litT k := by
  unfold litT
  split
  · intro h
    rcases List.mem_cons.1 h with h | h
    · cases h
    · rcases List.mem_cons.1 h with h | h
      · cases h
      · exact dec_no10 _ h
  · intro h
    rcases List.mem_cons.1 h with h | h
    · cases h
    · exact dec_no10 _ h
theorem conT_no10 (c : Con) : (10 : UInt8) ∉ conT c := by
  unfold conT
  intro h
  rcases List.mem_append.1 h with h | h
  · rcases List.mem_append.1 h with h | h
    · obtain ⟨t, _, ht⟩ := List.mem_flatMap.1 h
      unfold termT at ht
      rcases List.mem_append.1 ht with h | h
      · rcases List.mem_append.1 h with h | h
        · exact dec_no10 _ h
        · rcases List.mem_cons.1 h with h | h
          · cases h
          · exact litT_no10 _ h
      · simp at h
    · simp at h
  · exact dec_no10 _ h
theorem split_back (c : UInt8) : ∀ l, ((splitC c l).take ((splitC c l).length - 1)).flatMap (fun w => w ++ [c]) ++ (splitC c l).getD ((splitC c l).length - 1) [] = l
  | [] => rfl
  | b :: l => by
    have ih := split_back c l
    have hne := splitC_ne c l
    unfold splitC
    generalize splitC c l = ws at *
    obtain ⟨w, r, rfl⟩ : ∃ w r, ws = w :: r := by
      cases ws with
      | nil => exact absurd rfl hne
      | cons w r => exact ⟨w, r, rfl⟩
    split
    · rename_i e
      subst e
      simp only [List.length_cons, Nat.add_sub_cancel] at ih ⊢
      rw [List.take_succ_cons, List.flatMap_cons]
      show [] ++ [b] ++ _ ++ (w :: r).getD r.length [] = _
      rw [List.nil_append, List.append_assoc, ih]
      rfl
    · simp only [List.length_cons, Nat.add_sub_cancel] at ih ⊢
      cases r with
      | nil => simpa using ih
      | cons x r =>
        simp only [List.length_cons, List.take_succ_cons, List.flatMap_cons, List.append_assoc] at ih ⊢
        show (b :: w) ++ _ = _
        rw [List.cons_append]
        exact congrArg (b :: ·) ih
theorem split_lines : ∀ (ws : List (List UInt8)) (c : UInt8), (∀ w ∈ ws, c ∉ w) → splitC c (ws.flatMap fun w => w ++ [c]) = ws ++ [[]]
  | [], c, _ => rfl
  | w :: ws, c, h => by
    rw [List.flatMap_cons, List.append_assoc, List.singleton_append, splitC_cut _ (h w (by simp)), split_lines ws c fun x hx => h x (by simp [hx])]
    rfl
theorem i_lines {l : List UInt8} (h : l.length ≤ 1048576) (most : Int) : i_linesOf (bs l) most =
    some (((splitC 10 l).take ((splitC 10 l).length - 1)).map bs, ((splitC 10 l).getD ((splitC 10 l).length - 1) [] == []) && decide ((((splitC 10 l).length - 1 : Nat) : Int) ≤ most)) := by
  have hne : (splitC 10 l).length ≠ 0 := by rw [Ne, List.length_eq_zero_iff]; exact splitC_ne 10 l
  have hwl := splitC_len 10 l
  unfold i_linesOf
  rw [show (⟨#[10]⟩ : ByteArray) = bs [10] from rfl, strings_split (by omega), Option.bind_some]
  generalize splitC 10 l = ws at *
  simp only [List.length_map]
  rw [show i64 ((ws.length : Int) - 1) = ((ws.length - 1 : Nat) : Int) from by rw [i64_id (by omega) (by omega)]; omega, sl_pre (by rw [List.length_map]; omega), Option.bind_some, idx_words (by omega), Option.bind_some,
    show (⟨#[]⟩ : ByteArray) = bs [] from rfl, eq_bs, List.map_take]
end Go.L
namespace Go.L
open Go Go.E
set_option linter.unusedSimpArgs false
set_option linter.unusedVariables false
set_option maxRecDepth 100000
def wordS (k : Int) : List UInt8 :=
  if k = 1 then [97, 100, 100] else if k = 2 then [109, 117, 108, 116, 105, 112, 108, 121] else if k = 3 then [100, 105, 118, 105, 100, 101] else if k = 4 then [115, 97, 116, 117, 114, 97, 116, 101]
  else if k = 5 then [119, 101, 97, 107, 101, 110] else if k = 6 then [108, 105, 116, 101, 114, 97, 108] else if k = 7 then [114, 117, 112] else [100, 101, 108, 101, 116, 101]
def argT (s : Step) : List UInt8 :=
  if s.kind = 7 then conT s.given else if s.kind = 6 then litT s.a else if s.kind = 4 ∨ s.kind = 8 then dec s.a.toNat else dec s.a.toNat ++ 32 :: dec s.b.toNat
def lineS (s : Step) : List UInt8 := wordS s.kind ++ 32 :: argT s
def litQ (l : Int) : Bool := l != 0 && (decide (-12 ≤ l) && decide (l ≤ 12))
def writeB (s : Step) : Bool := partsB s && (if s.kind = 7 then okCon s.given else if s.kind = 6 then litQ s.a else okB s.a && okB s.b)
def fmtS (xs : List Step) : List UInt8 := if xs.length ≤ 1000 ∧ xs.all writeB = true then xs.flatMap (fun s => lineS s ++ [10]) else []
theorem litQ_iff {l : Int} : litQ l = true ↔ okL l := by
  unfold litQ okL
  simp
theorem okB_iff {n : Int} : okB n = true ↔ 0 ≤ n ∧ n ≤ 20000 := by unfold okB; simp
theorem kinds_of {s : Step} (h : writeB s = true) : 1 ≤ s.kind ∧ s.kind ≤ 8 ∧ ((s.kind = 7 ∧ okCon s.given = true) ∨ (s.kind = 6 ∧ okL s.a) ∨ ((s.kind ≠ 7 ∧ s.kind ≠ 6) ∧ (0 ≤ s.a ∧ s.a ≤ 20000) ∧ 0 ≤ s.b ∧ s.b ≤ 20000)) := by
  unfold writeB at h
  rw [Bool.and_eq_true] at h
  have hk : 1 ≤ s.kind ∧ s.kind ≤ 8 := by
    have := h.1
    unfold partsB at this
    split at this
    · omega
    · split at this
      · omega
      · split at this
        · omega
        · cases this
  refine ⟨hk.1, hk.2, ?_⟩
  have h2 := h.2
  split at h2
  · exact .inl ⟨‹_›, h2⟩
  · split at h2
    · exact .inr (.inl ⟨‹_›, litQ_iff.1 h2⟩)
    · rw [Bool.and_eq_true] at h2
      exact .inr (.inr ⟨⟨‹_›, ‹_›⟩, okB_iff.1 h2.1, okB_iff.1 h2.2⟩)
theorem wordS_len (k : Int) : 3 ≤ (wordS k).length ∧ (wordS k).length ≤ 8 := by
  unfold wordS
  repeat' split
  all_goals decide
theorem argT_len {s : Step} (h : writeB s = true) : (argT s).length ≤ 128 := by
  obtain ⟨_, _, ⟨hk, hc⟩ | ⟨hk, hl⟩ | ⟨hk, ha, hb⟩⟩ := kinds_of h
  · unfold argT; rw [if_pos hk]; exact conT_len hc
  · unfold argT
    rw [if_neg (by omega), if_pos hk]
    have := litT_len hl
    omega
  · have h1 := dec_len 4 s.a.toNat (by omega)
    have h2 := dec_len 4 s.b.toNat (by omega)
    unfold argT
    rw [if_neg hk.1, if_neg hk.2]
    split
    · omega
    · simp only [List.length_append, List.length_cons]; omega
theorem lineS_len {s : Step} (h : writeB s = true) : 4 ≤ (lineS s).length ∧ (lineS s).length ≤ 140 := by
  have h1 := argT_len h
  have h2 := wordS_len s.kind
  unfold lineS
  simp only [List.length_append, List.length_cons]
  omega
theorem i_isLit (l : Int) : i_isLiteral l = some (litQ l) := by
  unfold i_isLiteral i_within litQ
  simp only [Option.bind_some]
  cases (l != 0) <;> simp
theorem i_write (s : Step) : i_Step_writable s = some (writeB s) := by
  unfold i_Step_writable writeB
  rw [i_shaped, Option.bind_some]
  cases hp : partsB s with
  | false => rfl
  | true =>
    simp only [Bool.not_true, Bool.false_eq_true, if_false, Bool.true_and]
    by_cases h6 : s.kind = 6
    · rw [if_pos (by simp [h6]), i_isLit, if_neg (by omega), if_pos h6]
      rfl
    · rw [if_neg (by simpa using h6), if_neg h6]
      by_cases h7 : s.kind = 7
      · rw [if_pos (by simp [h7]), i_valid, if_pos h7]
        rfl
      · rw [if_neg (by simpa using h7), if_neg h7]
        unfold i_within okB
        simp only [Option.bind_some]
        cases (decide (0 ≤ s.a) && decide (s.a ≤ 20000)) <;> simp
theorem words_at {k : Int} (h : 1 ≤ k ∧ k ≤ 8) : idx [(⟨#[]⟩ : ByteArray), (⟨#[97, 100, 100]⟩ : ByteArray), (⟨#[109, 117, 108, 116, 105, 112, 108, 121]⟩ : ByteArray), (⟨#[100, 105, 118, 105, 100, 101]⟩ : ByteArray), (⟨#[115, 97, 116, 117, 114, 97, 116, 101]⟩ : ByteArray), (⟨#[119, 101, 97, 107, 101, 110]⟩ : ByteArray), (⟨#[108, 105, 116, 101, 114, 97, 108]⟩ : ByteArray), (⟨#[114, 117, 112]⟩ : ByteArray), (⟨#[100, 101, 108, 101, 116, 101]⟩ : ByteArray)] k = some (bs (wordS k)) := by
  rcases (show k = 1 ∨ k = 2 ∨ k = 3 ∨ k = 4 ∨ k = 5 ∨ k = 6 ∨ k = 7 ∨ k = 8 by omega) with e | e | e | e | e | e | e | e <;> rw [e] <;> rfl
theorem i_stepT {s : Step} (h : writeB s = true) : i_Step_text s = some (bs (lineS s)) := by
  have hw := wordS_len s.kind
  have hla := argT_len h
  obtain ⟨k1, k8, hc⟩ := kinds_of h
  unfold i_Step_text i_stepWords lineS
  rw [Option.bind_some, words_at ⟨k1, k8⟩, Option.bind_some, show (⟨#[32]⟩ : ByteArray) = bs [32] from rfl, cat_bs (by simp only [List.length_cons, List.length_nil]; omega), Option.bind_some, i_ref, Option.bind_some]
  rcases hc with ⟨hk, hc⟩ | ⟨hk, hl⟩ | ⟨⟨hk7, hk6⟩, ha, hb⟩
  · have hl := conT_len hc
    rw [if_neg (by simp [hk]), if_pos (by simp [hk]), i_text hc, Option.bind_some, cat_bs (by simp only [List.length_append, List.length_cons, List.length_nil]; omega), Option.bind_some]
    unfold argT
    rw [if_pos hk]
    simp
  · have hll := litT_len hl
    have hl := hl.2
    rw [if_pos (by simp [hk]), i_litText (by omega), Option.bind_some, cat_bs (by simp only [List.length_append, List.length_cons, List.length_nil]; omega), Option.bind_some]
    unfold argT
    rw [if_neg (by omega), if_pos hk]
    simp
  · have h1 := dec_len 4 s.a.toNat (by omega)
    have h2 := dec_len 4 s.b.toNat (by omega)
    rw [if_neg (by simpa using hk6), if_neg (by simpa using hk7)]
    unfold argT
    rw [if_neg hk7, if_neg hk6]
    unfold refersB
    rcases (show s.kind = 1 ∨ s.kind = 2 ∨ s.kind = 3 ∨ s.kind = 4 ∨ s.kind = 5 ∨ s.kind = 8 by omega) with e | e | e | e | e | e
    all_goals
      simp only [e, itoa_of ha.1 (show s.a ≤ 9223372036854775807 by omega), Option.bind_some]
      rw [cat_bs (by rw [← e]; simp only [List.length_append, List.length_cons, List.length_nil]; omega)]
      simp only [Option.bind_some, itoa_of hb.1 (show s.b ≤ 9223372036854775807 by omega)]
      simp
    all_goals
      rw [cat_bs (by rw [← e]; simp only [List.length_append, List.length_cons, List.length_nil]; omega), Option.bind_some, cat_bs (by rw [← e]; simp only [List.length_append, List.length_cons, List.length_nil]; omega)]
      simp
theorem s_lineT (s : Step) (hl : s.given.terms.length ≤ ML) {fu : Nat} (hf : 30 ≤ fu) : s_l4Line fu s = some (bs (if writeB s then lineS s else [])) := by
  unfold s_l4Line
  rw [s_parts, Option.bind_some]
  have hno : ∀ {b : Bool}, b = false → (bs (if (b = true) then lineS s else []) : ByteArray) = ⟨#[]⟩ := by rintro b rfl; rfl
  cases hp : partsB s with
  | false =>
    have : writeB s = false := by unfold writeB; rw [hp]; rfl
    rw [hno this]
    rfl
  | true =>
    have hk : 1 ≤ s.kind ∧ s.kind ≤ 8 := by
      unfold partsB at hp
      split at hp
      · omega
      · split at hp
        · omega
        · split at hp
          · omega
          · cases hp
    have hw := wordS_len s.kind
    unfold s_l4Words
    rw [if_neg (by simp), Option.bind_some, words_at hk, Option.bind_some]
    by_cases h7 : s.kind = 7
    · rw [if_pos (by simp [h7]), s_valid _ hl, Option.bind_some]
      have e : writeB s = okCon s.given := by unfold writeB; rw [hp, if_pos h7]; rfl
      cases hc : okCon s.given with
      | false => rw [hno (e.trans hc)]; rfl
      | true =>
        have hcl := conT_len hc
        rw [if_neg (by simp), show (⟨#[32]⟩ : ByteArray) = bs [32] from rfl, cat_bs (by simp only [List.length_cons, List.length_nil]; omega), Option.bind_some, s_text hc hf, Option.bind_some, cat_bs (by simp only [List.length_append, List.length_cons, List.length_nil]; omega), Option.bind_some,
          if_pos (e.trans hc)]
        unfold lineS argT
        rw [if_pos h7]
        simp
    · rw [if_neg (by simpa using h7)]
      by_cases h6 : s.kind = 6
      · rw [if_pos (by simp [h6])]
        have e : writeB s = litQ s.a := by unfold writeB; rw [hp, if_neg h7, if_pos h6]; rfl
        have e1 : s_l1Lit s.a = some (litQ s.a) := by
          unfold s_l1Lit litQ
          rw [Bool.and_assoc]
        rw [e1, Option.bind_some]
        cases hc : litQ s.a with
        | false => rw [hno (e.trans hc)]; rfl
        | true =>
          have hL := litQ_iff.1 hc
          have hll := litT_len hL
          have hL := hL.2
          rw [if_neg (by simp), show (⟨#[32]⟩ : ByteArray) = bs [32] from rfl, cat_bs (by simp only [List.length_cons, List.length_nil]; omega), Option.bind_some, s_litText (by omega) hf, Option.bind_some, cat_bs (by simp only [List.length_append, List.length_cons, List.length_nil]; omega), Option.bind_some,
            if_pos (e.trans hc)]
          unfold lineS argT
          rw [if_neg h7, if_pos h6]
          simp
      · rw [if_neg (by simpa using h6)]
        have e : writeB s = (okB s.a && okB s.b) := by unfold writeB; rw [hp, if_neg h7, if_neg h6]; rfl
        by_cases hr : (0 ≤ s.a ∧ s.a ≤ 20000) ∧ 0 ≤ s.b ∧ s.b ≤ 20000
        · obtain ⟨ha, hb⟩ := hr
          have h1 := dec_len 4 s.a.toNat (by omega)
          have h2 := dec_len 4 s.b.toNat (by omega)
          rw [if_neg (by simp only [Bool.or_eq_true, decide_eq_true_eq, not_or]; omega), show (⟨#[32]⟩ : ByteArray) = bs [32] from rfl, cat_bs (by simp only [List.length_cons, List.length_nil]; omega), Option.bind_some, s_dec_of ha.1 (by omega) hf, Option.bind_some,
            cat_bs (by simp only [List.length_append, List.length_cons, List.length_nil]; omega), Option.bind_some, if_pos (e.trans (by rw [okB_iff.2 ha, okB_iff.2 hb]; rfl))]
          unfold lineS argT
          rw [if_neg h7, if_neg h6]
          by_cases h48 : s.kind = 4 ∨ s.kind = 8
          · rw [if_neg (by rcases h48 with e | e <;> simp [e]), if_pos h48]
            simp
          · rw [if_pos (by simp; omega), if_neg h48, cat_bs (by simp only [List.length_append, List.length_cons, List.length_nil]; omega), Option.bind_some, s_dec_of hb.1 (by omega) hf, Option.bind_some, cat_bs (by simp only [List.length_append, List.length_cons, List.length_nil]; omega)]
            simp
        · have : writeB s = false := by
            rw [e]
            cases h1 : okB s.a with
            | false => rfl
            | true =>
              cases h2 : okB s.b with
              | false => rfl
              | true => exact absurd ⟨okB_iff.1 h1, okB_iff.1 h2⟩ hr
          rw [if_pos (by simp only [Bool.or_eq_true, decide_eq_true_eq]; omega), hno this]
theorem lines_next {xs : List Step} {i : Nat} {s : Step} (h : xs[i]? = some s) : (xs.take (i + 1)).flatMap (fun s => lineS s ++ [10]) = (xs.take i).flatMap (fun s => lineS s ++ [10]) ++ (lineS s ++ [10]) := flat_take _ h
theorem lines_len : ∀ {xs : List Step}, (∀ s ∈ xs, writeB s = true) → (xs.flatMap (fun s => lineS s ++ [10])).length ≤ 141 * xs.length
  | [], _ => by simp
  | s :: xs, h => by
    have h1 := (lineS_len (h s (by simp))).2
    have h2 := lines_len (xs := xs) fun x hx => h x (by simp [hx])
    simp only [List.flatMap_cons, List.length_append, List.length_cons, List.length_nil]
    omega
theorem all_take {xs : List Step} {i : Nat} {s : Step} (h : xs[i]? = some s) (ha : ∀ x ∈ xs.take i, writeB x = true) (hs : writeB s = true) : ∀ x ∈ xs.take (i + 1), writeB x = true := by
  intro x hx
  rw [List.take_add_one, h, Option.toList_some] at hx
  rcases List.mem_append.1 hx with h1 | h1
  · exact ha x h1
  · rw [List.mem_singleton.1 h1]; exact hs
theorem lines_loop {b : Nat → Step → ByteArray → Option (Lo ByteArray ByteArray)} (xs : List Step) (hl : xs.length ≤ 1000)
    (hb : ∀ i s (o : List UInt8), xs[i]? = some s → o.length ≤ 141000 → b i s (bs o) = some (if writeB s then .cont (bs (o ++ (lineS s ++ [10]))) else .out (bs []))) :
    ∃ j, rangeL b xs 0 (bs []) = some j ∧ (match j with | .nx o => o | .out t => t) = bs (if xs.all writeB = true then xs.flatMap (fun s => lineS s ++ [10]) else []) := by
  refine range_inv xs (fun i o => (∀ x ∈ xs.take i, writeB x = true) ∧ o = bs ((xs.take i).flatMap (fun s => lineS s ++ [10]))) (fun j => (match j with | .nx o => o | .out t => t) = bs (if xs.all writeB = true then xs.flatMap (fun s => lineS s ++ [10]) else []))
    ?_ ?_ _ ⟨by simp, by simp⟩
  · rintro o ⟨h1, h2⟩
    rw [List.take_length] at h1 h2
    rw [if_pos (List.all_eq_true.2 h1)]
    exact h2
  · rintro i s o hs ⟨h1, rfl⟩
    have h2 := lines_len h1
    have h3 : (xs.take i).length ≤ xs.length := by rw [List.length_take]; omega
    rw [hb i s _ hs (by omega)]
    cases hw : writeB s with
    | true =>
      simp only [if_true]
      exact ⟨_, rfl, all_take hs h1 hw, by rw [lines_next hs]⟩
    | false =>
      refine ⟨_, rfl, ?_⟩
      simp only [Bool.false_eq_true, if_false]
      rw [if_neg]
      intro h
      have := List.all_eq_true.1 h s (List.mem_of_getElem? hs)
      rw [hw] at this
      cases this
theorem s_fmtS (xs : List Step) (hg : ∀ s ∈ xs, s.given.terms.length ≤ ML) {fu : Nat} (hf : 30 ≤ fu) : s_FormatProof fu xs = some (bs (fmtS xs)) := by
  unfold s_FormatProof fmtS
  by_cases hl : xs.length ≤ 1000
  · rw [if_neg (by simp only [decide_eq_true_eq]; omega)]
    obtain ⟨j, hj, hj2⟩ := lines_loop (b := s_FormatProof_b1 fu) xs hl fun i s o hs ho => by
      unfold s_FormatProof_b1
      simp only []
      rw [s_lineT s (hg s (List.mem_of_getElem? hs)) hf, Option.bind_some, show (⟨#[]⟩ : ByteArray) = bs [] from rfl, eq_bs]
      cases hw : writeB s with
      | false => rfl
      | true =>
        have h1 := lineS_len hw
        have h2 : (lineS s == []) = false := by
          cases h : lineS s with
          | nil => rw [h] at h1; simp at h1
          | cons x r => rfl
        simp only [if_true, h2, Bool.false_eq_true, if_false]
        rw [cat_bs (by omega), Option.bind_some, show (⟨#[10]⟩ : ByteArray) = bs [10] from rfl, cat_bs (by simp only [List.length_append, List.length_cons, List.length_nil]; omega), Option.bind_some, List.append_assoc]
    rw [show (⟨#[]⟩ : ByteArray) = bs [] from rfl, hj, Option.bind_some]
    have e : (xs.length ≤ 1000 ∧ xs.all writeB = true) ↔ xs.all writeB = true := ⟨fun h => h.2, fun h => ⟨hl, h⟩⟩
    simp only [e]
    cases j with
    | nx o => exact congrArg some hj2
    | out t => exact congrArg some hj2
  · rw [if_pos (by simp only [decide_eq_true_eq]; omega), if_neg (fun h => hl h.1)]
    rfl
end Go.L
namespace Go.L
open Go Go.E
set_option linter.unusedSimpArgs false
set_option linter.unusedVariables false
set_option maxRecDepth 100000
theorem idx_ws {ws : List (List UInt8)} {i : Nat} (h : i < ws.length) : idx (ws.map bs) (i : Int) = some (bs (ws.getD i [])) := by
  rw [idx_nat, List.getElem?_map, List.getElem?_eq_getElem h]
  simp [List.getD, List.getElem?_eq_getElem h]
theorem getD_ws {ws : List (List UInt8)} {c : Nat} (hw : ∀ w ∈ ws, w.length ≤ c) (i : Nat) : (ws.getD i []).length ≤ c := by
  unfold List.getD
  cases h : ws[i]? with
  | none => simp
  | some w => exact hw w (List.mem_of_getElem? h)
theorem wordS_not {c : UInt8} (h : c.toNat < 97) (k : Int) : c ∉ wordS k := by
  have h1 : ∀ l : List UInt8, (∀ b ∈ l, 97 ≤ b.toNat) → c ∉ l := fun l hl hm => by have := hl c hm; omega
  unfold wordS
  refine h1 _ ?_
  repeat' split
  all_goals decide
def kS (w : List UInt8) : Int := if w = wordS 1 then 1 else if w = wordS 2 then 2 else if w = wordS 3 then 3 else if w = wordS 4 then 4 else if w = wordS 5 then 5 else if w = wordS 6 then 6 else if w = wordS 7 then 7 else if w = wordS 8 then 8 else 0
theorem kS_word {k : Int} (h : 1 ≤ k ∧ k ≤ 8) : kS (wordS k) = k := by
  rcases (show k = 1 ∨ k = 2 ∨ k = 3 ∨ k = 4 ∨ k = 5 ∨ k = 6 ∨ k = 7 ∨ k = 8 by omega) with e | e | e | e | e | e | e | e <;> subst e <;> decide
theorem kS_range (w : List UInt8) : 0 ≤ kS w ∧ kS w ≤ 8 := by
  unfold kS
  repeat' split
  all_goals omega
theorem kS_iff {w : List UInt8} {k : Int} (h : 1 ≤ k ∧ k ≤ 8) : w = wordS k ↔ kS w = k := by
  constructor
  · rintro rfl; exact kS_word h
  · intro e
    unfold kS at e
    repeat' split at e
    all_goals first | (subst e; assumption) | omega
theorem i_indexS (w : List UInt8) : ∃ x, (i_stepWords).bind (fun x25 => slices_Index_string x25 (bs w)) = some x ∧ max 0 x = kS w := by
  unfold i_stepWords slices_Index_string
  rw [Option.bind_some]
  simp only [rangeL, slices_Index_string_b1, show (⟨#[]⟩ : ByteArray) = bs [] from rfl, show (⟨#[97, 100, 100]⟩ : ByteArray) = bs (wordS 1) from rfl, show (⟨#[109, 117, 108, 116, 105, 112, 108, 121]⟩ : ByteArray) = bs (wordS 2) from rfl,
    show (⟨#[100, 105, 118, 105, 100, 101]⟩ : ByteArray) = bs (wordS 3) from rfl, show (⟨#[115, 97, 116, 117, 114, 97, 116, 101]⟩ : ByteArray) = bs (wordS 4) from rfl, show (⟨#[119, 101, 97, 107, 101, 110]⟩ : ByteArray) = bs (wordS 5) from rfl,
    show (⟨#[108, 105, 116, 101, 114, 97, 108]⟩ : ByteArray) = bs (wordS 6) from rfl, show (⟨#[114, 117, 112]⟩ : ByteArray) = bs (wordS 7) from rfl, show (⟨#[100, 101, 108, 101, 116, 101]⟩ : ByteArray) = bs (wordS 8) from rfl, eq_bs, beq_iff_eq]
  unfold kS
  by_cases h0 : w = []
  · subst h0; exact ⟨0, rfl, by decide⟩
  rw [if_neg h0]
  simp only [Option.bind_some]
  by_cases h1 : w = wordS 1
  · rw [if_pos h1, if_pos h1]; exact ⟨_, rfl, by decide⟩
  rw [if_neg h1, if_neg h1]
  simp only [Option.bind_some]
  by_cases h2 : w = wordS 2
  · rw [if_pos h2, if_pos h2]; exact ⟨_, rfl, by decide⟩
  rw [if_neg h2, if_neg h2]
  simp only [Option.bind_some]
  by_cases h3 : w = wordS 3
  · rw [if_pos h3, if_pos h3]; exact ⟨_, rfl, by decide⟩
  rw [if_neg h3, if_neg h3]
  simp only [Option.bind_some]
  by_cases h4 : w = wordS 4
  · rw [if_pos h4, if_pos h4]; exact ⟨_, rfl, by decide⟩
  rw [if_neg h4, if_neg h4]
  simp only [Option.bind_some]
  by_cases h5 : w = wordS 5
  · rw [if_pos h5, if_pos h5]; exact ⟨_, rfl, by decide⟩
  rw [if_neg h5, if_neg h5]
  simp only [Option.bind_some]
  by_cases h6 : w = wordS 6
  · rw [if_pos h6, if_pos h6]; exact ⟨_, rfl, by decide⟩
  rw [if_neg h6, if_neg h6]
  simp only [Option.bind_some]
  by_cases h7 : w = wordS 7
  · rw [if_pos h7, if_pos h7]; exact ⟨_, rfl, by decide⟩
  rw [if_neg h7, if_neg h7]
  simp only [Option.bind_some]
  by_cases h8 : w = wordS 8
  · rw [if_pos h8, if_pos h8]; exact ⟨_, rfl, by decide⟩
  rw [if_neg h8, if_neg h8]
  exact ⟨_, rfl, by decide⟩
theorem write_parts {q : Step} (h : writeB q = true) : (1 ≤ q.kind ∧ q.kind ≤ 8) ∧
    ((q.kind = 7 ∧ okCon q.given = true ∧ q = ⟨7, 0, 0, q.given⟩) ∨ (q.kind = 6 ∧ okL q.a ∧ q = ⟨6, q.a, 0, ⟨[], 0⟩⟩) ∨
     (q.kind ≠ 7 ∧ q.kind ≠ 6 ∧ (q.kind = 4 ∨ q.kind = 8) ∧ (0 ≤ q.a ∧ q.a ≤ 20000) ∧ q = ⟨q.kind, q.a, 0, ⟨[], 0⟩⟩) ∨
     (q.kind ≠ 7 ∧ q.kind ≠ 6 ∧ ¬ (q.kind = 4 ∨ q.kind = 8) ∧ (0 ≤ q.a ∧ q.a ≤ 20000) ∧ (0 ≤ q.b ∧ q.b ≤ 20000) ∧ q = ⟨q.kind, q.a, q.b, ⟨[], 0⟩⟩)) := by
  obtain ⟨k1, k8, hc⟩ := kinds_of h
  refine ⟨⟨k1, k8⟩, ?_⟩
  have hp : partsB q = true := by unfold writeB at h; rw [Bool.and_eq_true] at h; exact h.1
  unfold partsB at hp
  have hno : noC q.given = true → q.given = ⟨[], 0⟩ := fun h => by rw [← noC_eq] at h; exact of_decide_eq_true h
  obtain ⟨kd, a, b, gv⟩ := q
  simp only at hc hp hno k1 k8 ⊢
  rcases hc with ⟨hk, hc⟩ | ⟨hk, hl⟩ | ⟨⟨hk7, hk6⟩, ha, hb⟩
  · subst hk
    simp at hp
    obtain ⟨rfl, rfl⟩ := hp
    exact .inl ⟨rfl, hc, rfl⟩
  · subst hk
    simp at hp
    obtain ⟨h1, rfl⟩ := hp
    rw [hno h1]
    exact .inr (.inl ⟨rfl, hl, rfl⟩)
  · by_cases h48 : kd = 4 ∨ kd = 8
    · rw [if_neg (by omega), if_pos (by omega)] at hp
      simp at hp
      obtain ⟨h1, rfl⟩ := hp
      rw [hno h1]
      exact .inr (.inr (.inl ⟨hk7, hk6, h48, ha, rfl⟩))
    · rw [if_pos (by omega)] at hp
      rw [hno hp]
      exact .inr (.inr (.inr ⟨hk7, hk6, h48, ha, hb, rfl⟩))
theorem cut_at {c : UInt8} {w r : List UInt8} (h : c ∉ w) : Go.Lib.cut (w ++ c :: r) [c] = (w, r, true) := by
  unfold Go.Lib.cut
  rw [index_cut r h, if_pos (by omega), Int.toNat_natCast, List.take_left' rfl, show w ++ c :: r = (w ++ [c]) ++ r by simp, List.drop_left' (by simp)]
theorem cut_none {c : UInt8} {w : List UInt8} (h : c ∉ w) : Go.Lib.cut w [c] = (w, [], false) := by
  unfold Go.Lib.cut
  rw [index_none h, if_neg (by omega)]
theorem cut_len (l : List UInt8) (c : UInt8) : (Go.Lib.cut l [c]).1.length ≤ l.length ∧ (Go.Lib.cut l [c]).2.1.length ≤ l.length := by
  by_cases hc : c ∈ l
  · obtain ⟨w, r, rfl, hw⟩ := first_cut hc
    rw [cut_at hw]
    simp
    omega
  · rw [cut_none hc]
    simp
def RS (l : List UInt8) (s : Step) : Prop := s.given.terms.length ≤ 12 ∧ ∀ q, writeB q = true → lineS q = l → s = q
theorem i_readS {l : List UInt8} (h : l.length ≤ 1048576) {fu : Nat} (hf : 100 ≤ fu) : ∃ s, i_readStep fu (bs l) = some (s, writeB s && (lineS s == l)) ∧ RS l s := by
  unfold i_readStep strings_Cut
  rw [if_pos (by rw [bs_size]; omega), Option.bind_some, bs_list, show (⟨#[32]⟩ : ByteArray) = bs [32] from rfl, bs_list]
  have hq : ∀ q, lineS q = l → Go.Lib.cut l [32] = (wordS q.kind, argT q, true) := fun q e => by rw [← e]; exact cut_at (wordS_not (by decide) _)
  obtain ⟨hl1, hl2⟩ := cut_len l 32
  generalize Go.Lib.cut l [32] = c at *
  obtain ⟨w, a, fnd⟩ := c
  simp only at hl1 hl2 ⊢
  obtain ⟨x, hx, hk⟩ := i_indexS w
  have hrw : ∀ {β : Type} (f : Int → Option β), ((i_stepWords).bind fun x23 => (slices_Index_string x23 (bs w)).bind f) = f x := fun f => by
    have e : ((i_stepWords).bind fun x23 => (slices_Index_string x23 (bs w)).bind f) = ((i_stepWords).bind fun x25 => slices_Index_string x25 (bs w)).bind f := by
      rw [Option.bind_assoc]
    rw [e, hx]
    rfl
  rw [hrw, hk]
  have hkind : ∀ q, writeB q = true → lineS q = l → kS w = q.kind ∧ a = argT q := fun q hw e => by
    have := hq q e
    simp only [Prod.mk.injEq] at this
    rw [this.1, this.2.1]
    exact ⟨kS_word (write_parts hw).1, rfl⟩
  generalize kS w = k at *
  have hfin : ∀ s : Step, RS l s → s.kind = k → ∃ s', ((i_Step_writable s).bind fun x154 => (if x154 then ((i_Step_text s).bind fun x162 => some (ByteArray.toList x162 == ByteArray.toList (bs l))) else some false).bind fun b164 => some (s, b164)) = some (s', writeB s' && (lineS s' == l)) ∧ RS l s' := fun s hs _ => by
    refine ⟨s, ?_, hs⟩
    rw [i_write, Option.bind_some]
    cases hw : writeB s with
    | false => rfl
    | true =>
      simp only [if_true]
      rw [i_stepT hw, Option.bind_some, eq_bs, Option.bind_some]
      rfl
  by_cases h6 : k = 6
  · rw [if_pos (by simp [h6]), i_readLit (by omega), Option.bind_some, Option.bind_some]
    refine hfin ⟨k, litI a, 0, ⟨[], 0⟩⟩ ⟨by simp, fun q hw e => ?_⟩ rfl
    obtain ⟨e1, e2⟩ := hkind q hw e
    obtain ⟨_, ⟨p1, _⟩ | ⟨p1, p2, p3⟩ | ⟨p1, p2, _⟩ | ⟨p1, p2, _⟩⟩ := write_parts hw
    · omega
    · have : argT q = litT q.a := by unfold argT; rw [if_neg (by omega), if_pos p1]
      rw [p3, e2, this, litI_lit p2, h6]
    · omega
    · omega
  rw [if_neg (by simpa using h6)]
  by_cases h7 : k = 7
  · rw [if_pos (by simp [h7]), i_parseC (by omega) hf, Option.bind_some, Option.bind_some, Option.bind_some]
    refine hfin ⟨k, 0, 0, ⟨(parseC a).1.terms, (parseC a).1.bound⟩⟩ ⟨parseC_len a, fun q hw e => ?_⟩ rfl
    obtain ⟨e1, e2⟩ := hkind q hw e
    obtain ⟨_, ⟨p1, p2, p3⟩ | ⟨p1, _⟩ | ⟨p1, p2, _⟩ | ⟨p1, p2, _⟩⟩ := write_parts hw
    · have : argT q = conT q.given := by unfold argT; rw [if_pos p1]
      rw [p3, e2, this, parseC_con p2, h7]
    · omega
    · omega
    · omega
  rw [if_neg (by simpa using h7), if_pos (by rw [bs_size]; omega), Option.bind_some, bs_list]
  have hq2 : ∀ q, writeB q = true → lineS q = l → (q.kind = 4 ∨ q.kind = 8) → Go.Lib.cut a [32] = (dec q.a.toNat, [], false) := fun q hw e h48 => by
    obtain ⟨e1, e2⟩ := hkind q hw e
    have : argT q = dec q.a.toNat := by unfold argT; rw [if_neg (by omega), if_neg (by omega), if_pos h48]
    rw [e2, this]
    exact cut_none (dec_no32 _)
  have hq3 : ∀ q, writeB q = true → lineS q = l → ¬ (q.kind = 4 ∨ q.kind = 8) → Go.Lib.cut a [32] = (dec q.a.toNat, dec q.b.toNat, true) := fun q hw e h48 => by
    obtain ⟨e1, e2⟩ := hkind q hw e
    have : argT q = dec q.a.toNat ++ 32 :: dec q.b.toNat := by unfold argT; rw [if_neg (by omega), if_neg (by omega), if_neg h48]
    rw [e2, this]
    exact cut_at (dec_no32 _)
  obtain ⟨hl3, hl4⟩ := cut_len a 32
  generalize Go.Lib.cut a [32] = d at *
  obtain ⟨x1, y1, f1⟩ := d
  simp only at hl3 hl4 hq2 hq3 ⊢
  rw [i_num (by omega), Option.bind_some]
  have hb : ((if f1 then ((i_number (bs y1)).bind fun x137 => some x137) else (some 0)) : Option Int) = some (if f1 then numI y1 else 0) := by
    cases f1 with
    | false => rfl
    | true => simp only [if_true]; rw [i_num (by omega)]; rfl
  rw [hb, Option.bind_some, Option.bind_some, Option.bind_some]
  refine hfin ⟨k, numI x1, if f1 then numI y1 else 0, ⟨[], 0⟩⟩ ⟨by simp, fun q hw e => ?_⟩ rfl
  obtain ⟨e1, e2⟩ := hkind q hw e
  have dn : ∀ n : Int, 0 ≤ n ∧ n ≤ 20000 → numI (dec n.toNat) = n := fun n hn => by have := numI_dec (n := n.toNat) (by omega); omega
  obtain ⟨_, ⟨p1, _⟩ | ⟨p1, _⟩ | ⟨p1, p2, p3, p4, p5⟩ | ⟨p1, p2, p3, p4, p5, p6⟩⟩ := write_parts hw
  · omega
  · omega
  · have := hq2 q hw e p3
    simp only [Prod.mk.injEq] at this
    obtain ⟨rfl, rfl, rfl⟩ := this
    rw [p5]
    simp [dn _ p4, e1]
  · have := hq3 q hw e p3
    simp only [Prod.mk.injEq] at this
    obtain ⟨rfl, rfl, rfl⟩ := this
    rw [p6]
    simp [dn _ p4, dn _ p5, e1]
theorem line_inj {s q : Step} (hs : writeB s = true) (hq : writeB q = true) (h : lineS s = lineS q) : s = q := by
  obtain ⟨x, _, _, hx⟩ := i_readS (l := lineS q) (by have := (lineS_len hq).2; omega) (Nat.le_refl 100)
  rw [← hx s hs h, hx q hq rfl]
theorem s_readS {l : List UInt8} (h : l.length ≤ 1048576) {fu : Nat} (hf : 100 ≤ fu) : So (s_l4Parse fu (bs l)) (RS l) := by
  have hwl := splitC_len 32 l
  have hw : ∀ w ∈ splitC 32 l, w.length ≤ 1048576 := fun w hm => Nat.le_trans (splitC_mem hm) h
  have hne : (splitC 32 l).length ≠ 0 := by rw [Ne, List.length_eq_zero_iff]; exact splitC_ne 32 l
  have hsp : ∃ w0 r, (splitC 32 l).getD 0 [] = w0 ∧ (((splitC 32 l).length = 1 ∧ l = w0 ∧ r = []) ∨ (1 < (splitC 32 l).length ∧ l = w0 ++ 32 :: r)) ∧ ∀ q, lineS q = l → w0 = wordS q.kind ∧ r = argT q ∧ splitC 32 l = wordS q.kind :: splitC 32 (argT q) := by
    by_cases hc : (32 : UInt8) ∈ l
    · obtain ⟨w, r, rfl, hw1⟩ := first_cut hc
      have hsr : (splitC 32 r).length ≠ 0 := by rw [Ne, List.length_eq_zero_iff]; exact splitC_ne 32 r
      refine ⟨w, r, by rw [splitC_cut r hw1]; rfl, .inr ⟨by rw [splitC_cut r hw1, List.length_cons]; omega, rfl⟩, fun q e => ?_⟩
      have e2 : Go.Lib.cut (lineS q) [32] = (wordS q.kind, argT q, true) := cut_at (wordS_not (by decide) _)
      rw [e, cut_at hw1] at e2
      simp only [Prod.mk.injEq, and_true] at e2
      refine ⟨e2.1, e2.2, ?_⟩
      rw [splitC_cut r hw1, e2.1, e2.2]
    · refine ⟨l, [], by rw [splitC_none hc]; rfl, .inl ⟨by rw [splitC_none hc]; rfl, rfl, rfl⟩, fun q e => ?_⟩
      exact absurd (by rw [← e]; unfold lineS; simp) hc
  unfold s_l4Parse
  rw [show ((32 : Int)) = ((32 : Nat) : Int) from rfl, s_cut (by omega) h, show UInt8.ofNat 32 = 32 from rfl, Option.bind_some]
  obtain ⟨w0, r, hw0, hsp, hq⟩ := hsp
  generalize splitC 32 l = ws at *
  have h0 : idx (ws.map bs) 0 = some (bs w0) := by rw [← hw0]; exact idx_ws (i := 0) (by omega)
  unfold s_l4Words
  rw [Option.bind_some]
  simp only [List.length_cons, List.length_nil]
  have hc8 : cntF 1 (((0 + 1 + 1 + 1 + 1 + 1 + 1 + 1 + 1 + 1 : Nat) : Int)) = some 8 := by
    rw [cntF_of (by omega) (by omega)]
    rfl
  rw [hc8, Option.bind_some]
  have hkr := kS_range w0
  have hloop := count_to (b := s_l4Parse_b1 (ws.map bs) [(⟨#[]⟩ : ByteArray), (⟨#[97, 100, 100]⟩ : ByteArray), (⟨#[109, 117, 108, 116, 105, 112, 108, 121]⟩ : ByteArray), (⟨#[100, 105, 118, 105, 100, 101]⟩ : ByteArray), (⟨#[115, 97, 116, 117, 114, 97, 116, 101]⟩ : ByteArray), (⟨#[119, 101, 97, 107, 101, 110]⟩ : ByteArray), (⟨#[108, 105, 116, 101, 114, 97, 108]⟩ : ByteArray), (⟨#[114, 117, 112]⟩ : ByteArray), (⟨#[100, 101, 108, 101, 116, 101]⟩ : ByteArray)])
    (fun i => if kS w0 < (i : Int) then kS w0 else 0) 8 1 fun i h1 h2 => by
    unfold s_l4Parse_b1
    simp only []
    rw [h0, Option.bind_some, words_at (k := (i : Int)) (by omega), Option.bind_some, eq_bs]
    by_cases he : w0 = wordS (i : Int)
    · have hk := (kS_iff (by omega)).1 he
      rw [if_pos (by simpa using he), Option.bind_some, if_pos (by omega), hk]
    · have hk : kS w0 ≠ (i : Int) := fun e => he ((kS_iff (by omega)).2 e)
      rw [if_neg (by simpa using he), Option.bind_some]
      by_cases hlt : kS w0 < (i : Int)
      · rw [if_pos hlt, if_pos (by omega)]
      · rw [if_neg hlt, if_neg (by omega)]
  have hF1 : (if kS w0 < ((1 : Nat) : Int) then kS w0 else 0) = 0 := by split <;> omega
  have hF9 : (if kS w0 < ((1 + 8 : Nat) : Int) then kS w0 else 0) = kS w0 := if_pos (by omega)
  rw [hF1, hF9] at hloop
  rw [hloop, Option.bind_some]
  have hkind : ∀ q, writeB q = true → lineS q = l → kS w0 = q.kind := fun q hw e => by rw [(hq q e).1]; exact kS_word (write_parts hw).1
  generalize kS w0 = k at *
  simp only []
  refine so_ite (fun h7 => ?_) fun h7 => ?_
  · have h7 : k = 7 := by simpa using h7
    subst h7
    rw [h0, Option.bind_some, bs_size, List.length_map]
    have hone : s_l4One (decide ((ws.length : Int) > 1)) = some (if 1 < ws.length then 1 else 0) := by
      unfold s_l4One
      by_cases hc : 1 < ws.length
      · rw [if_pos (by simp; omega), if_pos hc]
      · rw [if_neg (by simp; omega), if_neg hc]
    rw [hone, Option.bind_some]
    have hssl : ssl (bs l) (i64 ((w0.length : Int) + (if 1 < ws.length then 1 else 0))) ((bs l).size : Int) = some (bs r) := by
      rcases hsp with ⟨s1, s2, s3⟩ | ⟨s1, s2⟩
      · rw [if_neg (by omega), i64_id (by rw [← s2]; omega) (by rw [← s2]; omega), Int.add_zero, ← s2, s3, ssl_from (Nat.le_refl _), List.drop_length]
      · have hl : w0.length + 1 ≤ l.length := by rw [s2]; simp
        rw [if_pos s1, i64_id (by omega) (by omega), show ((w0.length : Int) + 1) = ((w0.length + 1 : Nat) : Int) by omega, ssl_from hl, s2, show w0 ++ 32 :: r = (w0 ++ [32]) ++ r by simp, List.drop_left' (by simp)]
    rw [hssl, Option.bind_some]
    have hrl : r.length ≤ 1048576 := by
      rcases hsp with ⟨s1, s2, s3⟩ | ⟨s1, s2⟩
      · rw [s3]; simp
      · rw [s2] at h; simp at h; omega
    rw [s_parseC hrl hf, Option.bind_some]
    refine so_some ⟨parseC_len r, fun q hw e => ?_⟩
    have hk := hkind q hw e
    obtain ⟨_, ⟨p1, p2, p3⟩ | ⟨p1, _⟩ | ⟨p1, p2, _⟩ | ⟨p1, p2, _⟩⟩ := write_parts hw
    · have : argT q = conT q.given := by unfold argT; rw [if_pos p1]
      rw [(hq q e).2.1, this, parseC_con p2, p3]
    · omega
    · omega
    · omega
  · have h7 : k ≠ 7 := by simpa using h7
    refine so_bind (P := fun x => x = if 1 < ws.length then (if k = 6 then litS (ws.getD 1 []) else numS (ws.getD 1 [])) else 0) (so_ite (fun hc => ?_) fun hc => so_some ?_) fun x hx => ?_
    · rw [List.length_map] at hc
      have hc : 1 < ws.length := by have := of_decide_eq_true hc; omega
      obtain ⟨b, hb⟩ := s_num (l := ws.getD 1 []) (getD_ws hw 1)
      have e1 : idx (ws.map bs) 1 = some (bs (ws.getD 1 [])) := idx_ws (i := 1) hc
      rw [e1, Option.bind_some, hb, Option.bind_some, if_pos hc]
      by_cases h6 : k = 6
      · rw [if_pos (by simp [h6]), s_readLit (getD_ws hw 1), if_pos h6]
        exact so_some rfl
      · rw [if_neg (by simpa using h6), if_neg h6]
        exact so_some rfl
    · rw [List.length_map] at hc
      simp only [decide_eq_true_eq] at hc
      rw [if_neg (by omega)]
    subst hx
    refine so_bind (P := fun x => x = if 2 < ws.length then numS (ws.getD 2 []) else 0) (so_ite (fun hc => ?_) fun hc => so_some ?_) fun x hx => ?_
    · rw [List.length_map] at hc
      have hc : 2 < ws.length := by have := of_decide_eq_true hc; omega
      obtain ⟨b, hb⟩ := s_num (l := ws.getD 2 []) (getD_ws hw 2)
      have e1 : idx (ws.map bs) 2 = some (bs (ws.getD 2 [])) := idx_ws (i := 2) hc
      rw [e1, Option.bind_some, hb, Option.bind_some, if_pos hc]
      exact so_some rfl
    · rw [List.length_map] at hc
      simp only [decide_eq_true_eq] at hc
      rw [if_neg (by omega)]
    subst hx
    refine so_some ⟨by simp, fun q hw e => ?_⟩
    have hk := hkind q hw e
    obtain ⟨g1, g2, g3⟩ := hq q e
    have dn : ∀ n : Int, 0 ≤ n ∧ n ≤ 20000 → numS (dec n.toNat) = n := fun n hn => by have := numS_dec (n := n.toNat) (by omega); omega
    obtain ⟨_, ⟨p1, _⟩ | ⟨p1, p2, p3⟩ | ⟨p1, p2, p3, p4, p5⟩ | ⟨p1, p2, p3, p4, p5, p6⟩⟩ := write_parts hw
    · omega
    · have ea : argT q = litT q.a := by unfold argT; rw [if_neg (by omega), if_pos p1]
      rw [ea, splitC_none (litT_no32 _)] at g3
      subst g3
      rw [p3]
      simp [hk, p1, litS_lit p2]
    · have ea : argT q = dec q.a.toNat := by unfold argT; rw [if_neg (by omega), if_neg (by omega), if_pos p3]
      rw [ea, splitC_none (dec_no32 _)] at g3
      subst g3
      rw [p5]
      simp [hk, p2, dn _ p4]
    · have ea : argT q = dec q.a.toNat ++ 32 :: dec q.b.toNat := by unfold argT; rw [if_neg (by omega), if_neg (by omega), if_neg p3]
      rw [ea, splitC_cut _ (dec_no32 _), splitC_none (dec_no32 _)] at g3
      subst g3
      rw [p6]
      simp [hk, p2, dn _ p4, dn _ p5]
end Go.L
namespace Go.L
open Go Go.E
set_option linter.unusedVariables false
theorem same_list {α : Type} {one : α → α → Option Bool} {xs : List α} {b : Nat → α → Unit → Option (Lo Unit Bool)} {all : Option Bool} {k : Jn Unit Bool → Option Bool}
    (e : all = if ((xs.length : Int) != (xs.length : Int)) then (some false) else ((rangeL b xs 0 ()).bind k)) (hk : k (.nx ()) = some true)
    (hb : ∀ i x, xs[i]? = some x → b i x () = (one x x).bind fun y => if (!y) then some (.out false) else some (.cont ())) (hone : ∀ x ∈ xs, one x x = some true) : all = some true := by
  rw [e, if_neg (by simp)]
  have h := range_all (fun _ => true) false (b := b) xs (fun i x hx => by rw [hb i x hx, hone x (List.mem_of_getElem? hx)]; rfl)
  rw [h]
  simp [hk]
theorem idx_self {α : Type} {xs : List α} {i : Nat} {x : α} (h : xs[i]? = some x) : idx xs (i : Int) = some x := by rw [idx_nat, h]
end Go.L
namespace Go.L
open Go Go.E
set_option linter.unusedVariables false
set_option linter.unusedSimpArgs false
set_option maxRecDepth 100000
def FV : Nat := 2000000
def chain {α : Type} (P : α → Int → Int → Prop) : List α → Int → Int → Prop
  | [], k, k' => k = k'
  | y :: ys, k, k' => ∃ k1, P y k k1 ∧ chain P ys k1 k'
theorem chain_range {α τ : Type} {P : α → Int → Int → Prop} {b : Nat → α → Int → Option (Lo Int τ)} (hb : ∀ i y k k', P y k k' → b i y k = some (.cont k')) :
    ∀ (ys : List α) (i : Nat) (k k' : Int), chain P ys k k' → rangeL b ys i k = some (.nx k')
  | [], i, k, k', h => by obtain rfl := h; rfl
  | y :: ys, i, k, k', ⟨k1, h1, h2⟩ => by show (b i y k).bind _ = _; rw [hb i y k k1 h1]; exact chain_range hb ys (i + 1) k1 k' h2
theorem drop_set_cons {α : Type} {a : List α} {i : Nat} {y : α} (h : a[i]? = some y) : a.drop i = y :: a.drop (i + 1) := by
  obtain ⟨hi, rfl⟩ := List.getElem?_eq_some_iff.1 h
  rw [List.drop_eq_getElem_cons hi]
theorem mark_loop {α τ : Type} {b : (List α × Int × Int) → Option (Lo (List α × Int × Int) τ)} (P : α → Int → Int → Prop) (c K : Int) (hc : 0 ≤ c) (xs : List α) (hlen : xs.length ≤ 1048576)
    (h : ∀ (a : List α) (k : Int) (i : Nat) (x : α), a[i]? = some x → x ∈ xs → 0 ≤ k → k ≤ K → ∃ y k', b (a, k, i) = some (.cont (a.set i y, k', i64 ((i : Int) + 1))) ∧ P y k k' ∧ k ≤ k' ∧ k' ≤ k + c)
    (hb : ∀ (a : List α) (k : Int) (i : Nat), a.length ≤ i → b (a, k, i) = some (.brk (a, k, i))) :
    ∀ (n : Nat) (i : Nat) (a : List α) (k : Int) (fu : Nat), xs.length = i + n → a.length = xs.length → (∀ j, i ≤ j → a[j]? = xs[j]?) → n < fu → 0 ≤ k → k + n * c ≤ K →
      ∃ a' k' j, whileL b fu (a, k, i) = some (.nx (a', k', j)) ∧ a'.length = xs.length ∧ (∀ j, j < i → a'[j]? = a[j]?) ∧ chain P (a'.drop i) k k' ∧ k ≤ k' ∧ k' ≤ k + n * c
  | 0, i, a, k, fu, hn, ha, hj, hf, h0, hK => by
    obtain ⟨f, rfl⟩ : ∃ f, fu = f + 1 := ⟨fu - 1, by omega⟩
    refine ⟨a, k, i, ?_, ha, fun _ _ => rfl, ?_, by omega, by simp⟩
    · show (b (a, k, (i : Int))).bind _ = _
      rw [hb a k i (by omega)]; rfl
    · rw [List.drop_of_length_le (by omega)]; rfl
  | n + 1, i, a, k, fu, hn, ha, hj, hf, h0, hK => by
    obtain ⟨f, rfl⟩ : ∃ f, fu = f + 1 := ⟨fu - 1, by omega⟩
    have hi : i < a.length := by omega
    have hx : a[i]? = some a[i] := List.getElem?_eq_getElem hi
    have hm : a[i] ∈ xs := by
      have := hj i (Nat.le_refl _)
      rw [hx] at this
      exact List.mem_of_getElem? this.symm
    have hnc : ((n + 1 : Nat) : Int) * c = n * c + c := by rw [Int.natCast_add, Int.add_mul]; simp
    have hpos : 0 ≤ (n : Int) * c := Int.mul_nonneg (by omega) hc
    obtain ⟨y, k1, e, hP, h1, h2⟩ := h a k i a[i] hx hm h0 (by omega)
    obtain ⟨a', k', j', e', hl', hs', hch, h3, h4⟩ := mark_loop P c K hc xs hlen h hb n (i + 1) (a.set i y) k1 f (by omega) (by rw [List.length_set]; exact ha)
      (fun j hij => by rw [List.getElem?_set_ne (by omega)]; exact hj j (by omega)) (by omega) (by omega) (by omega)
    refine ⟨a', k', j', ?_, hl', ?_, ?_, by omega, by omega⟩
    · show (b (a, k, (i : Int))).bind _ = _
      rw [e]
      show whileL b f (a.set i y, k1, i64 ((i : Int) + 1)) = _
      rw [i64_id (by omega) (by omega)]
      exact e'
    · intro j hji
      rw [hs' j (by omega), List.getElem?_set_ne (by omega)]
    · have hy : a'[i]? = some y := by rw [hs' i (by omega), List.getElem?_set_self (by omega)]
      rw [drop_set_cons hy]
      exact ⟨k1, hP, hch⟩
theorem mark_all {α τ : Type} {b : (List α × Int × Int) → Option (Lo (List α × Int × Int) τ)} (P : α → Int → Int → Prop) (c K : Int) (hc : 0 ≤ c) (xs : List α) (hlen : xs.length ≤ 1048576)
    (h : ∀ (a : List α) (k : Int) (i : Nat) (x : α), a[i]? = some x → x ∈ xs → 0 ≤ k → k ≤ K → ∃ y k', b (a, k, i) = some (.cont (a.set i y, k', i64 ((i : Int) + 1))) ∧ P y k k' ∧ k ≤ k' ∧ k' ≤ k + c)
    (hb : ∀ (a : List α) (k : Int) (i : Nat), a.length ≤ i → b (a, k, i) = some (.brk (a, k, i))) (k : Int) (fu : Nat) (hf : FV ≤ fu) (h0 : 0 ≤ k) (hK : k + 1048576 * c ≤ K) :
    ∃ a' k' j, whileL b fu (xs, k, 0) = some (.nx (a', k', j)) ∧ a'.length = xs.length ∧ chain P a' k k' ∧ k ≤ k' ∧ k' ≤ k + 1048576 * c := by
  have hm : (xs.length : Int) * c ≤ 1048576 * c := Int.mul_le_mul_of_nonneg_right (by omega) hc
  obtain ⟨a', k', j, e, hl, _, hch, h1, h2⟩ := mark_loop P c K hc xs hlen h hb xs.length 0 xs k fu (by omega) rfl (fun _ _ => rfl) (by unfold FV at hf; omega) h0 (by omega)
  exact ⟨a', k', j, e, hl, hch, h1, by omega⟩
theorem mk_lt {α : Type} {a : List α} {i : Nat} {x : α} (h : a[i]? = some x) : decide ((i : Int) < (a.length : Int)) = true := by
  have := (List.getElem?_eq_some_iff.1 h).1
  simpa using this
theorem mk_ge {α : Type} {a : List α} {i : Nat} (h : a.length ≤ i) : decide ((i : Int) < (a.length : Int)) = false := by simpa using h
theorem idx_set_self {α : Type} {a : List α} {i : Nat} {x y : α} (hx : a[i]? = some x) : idx (a.set i y) (i : Int) = some y := by
  rw [idx_nat, List.getElem?_set_self (List.getElem?_eq_some_iff.1 hx).1]
end Go.L
namespace Go.L
open Go Go.E
set_option linter.unusedVariables false
set_option linter.unusedSimpArgs false
set_option maxRecDepth 100000
def smC (c : Con) : Prop := c.terms.length ≤ 1048576
def smSs (xs : List Step) : Prop := xs.length ≤ 1048576 ∧ ∀ s ∈ xs, smC s.given
theorem eqTerm (t : Term) : l_eqTerm t t = some true := by
  unfold l_eqTerm
  simp
theorem eqTerms (a : List Term) : l_eqTermS a a = some true :=
  same_list (one := l_eqTerm) rfl rfl (fun i x hx => by show (idx a (i : Int)).bind _ = _; rw [idx_self hx]; rfl) fun x _ => eqTerm x
theorem eqCon (a : Con) : l_eqConstraint a a = some true := by
  unfold l_eqConstraint
  simp [eqTerms]
theorem eqStep (a : Step) : l_eqStep a a = some true := by
  unfold l_eqStep
  simp [eqCon]
theorem eqSteps (a : List Step) : l_eqStepS a a = some true :=
  same_list (one := l_eqStep) rfl rfl (fun i x hx => by show (idx a (i : Int)).bind _ = _; rw [idx_self hx]; rfl) fun x _ => eqStep x
theorem mkTerms (xs : List Term) (hl : xs.length ≤ 1048576) (fu : Nat) (hf : FV ≤ fu) (k : Int) (h0 : 0 ≤ k) (hK : k + 4194304 ≤ 9000000000000000000) :
    ∃ k' a', l_markTermS fu xs k = some (k', a') ∧ l_heldTermS a' k = some k' ∧ k ≤ k' ∧ k' ≤ k + 2097152 := by
  obtain ⟨a', k', j, e, _, hch, h1, h2⟩ := mark_all (b := l_markTermS_b1) (fun y k k' => y = (⟨k, k + 1⟩ : Term) ∧ k' = k + 2 ∧ 0 ≤ k ∧ k ≤ 9000000000000000000) 2 9000000000000000000 (by omega) xs hl
    (fun a k i x hx _ h0 h1 => ⟨⟨k, k + 1⟩, k + 2, by
      have hi := (List.getElem?_eq_some_iff.1 hx).1
      show (if decide ((i : Int) < (a.length : Int)) then _ else _) = _
      rw [mk_lt hx, if_pos rfl, idx_nat, hx, Option.bind_some]
      simp only [Int.toNat_natCast, idx_set_self hx, Option.bind_some, List.set_set, i64_id (n := k + 1) (by omega) (by omega)]
      rw [i64_id (n := k + 1 + 1) (by omega) (by omega)]
      congr 4
      omega, ⟨rfl, rfl, h0, h1⟩, by omega, by omega⟩)
    (fun a k i h => by show (if decide ((i : Int) < (a.length : Int)) then _ else _) = _; rw [mk_ge h]; rfl) k fu hf h0 (by omega)
  refine ⟨k', a', ?_, ?_, h1, by omega⟩
  · unfold l_markTermS; rw [e]; rfl
  · unfold l_heldTermS
    rw [chain_range (b := l_heldTermS_b1) (P := fun y k k' => y = (⟨k, k + 1⟩ : Term) ∧ k' = k + 2 ∧ 0 ≤ k ∧ k ≤ 9000000000000000000) ?_ a' 0 k k' hch]
    · rfl
    · rintro i y k k' ⟨rfl, rfl, q0, q1⟩
      rw [l_heldTermS_b1]
      simp only [bne_self_eq_false, Bool.false_eq_true, if_false, i64_id (n := k + 1) (by omega) (by omega)]
      rw [i64_id (by omega) (by omega)]
      congr 2
      omega
def PS (y : Step) (k k' : Int) : Prop := y.kind = k ∧ y.a = k + 1 ∧ y.b = k + 2 ∧ l_heldTermS y.given.terms (k + 3) = some (k' - 1) ∧ y.given.bound = k' - 1 ∧ 0 ≤ k ∧ k ≤ 8000000000000000000 ∧ 0 ≤ k' - 1 ∧ k' ≤ 9000000000000000000
theorem mkSteps (xs : List Step) (h : smSs xs) (fu : Nat) (hf : FV ≤ fu) (k : Int) (h0 : 0 ≤ k) (hK : k ≤ 1000000000000000000) :
    ∃ k' a', l_markStepS fu xs k = some (k', a') ∧ chain PS a' k k' ∧ k ≤ k' ∧ k' ≤ k + 2199027449856 := by
  obtain ⟨a', k', j, e, _, hch, h1, h2⟩ := mark_all (b := l_markStepS_b1 fu xs) PS 2097156 8000000000000000000 (by omega) xs h.1
    (fun a k i x hx hm h0 h1 => by
      obtain ⟨k1, y1, e1, g1, p1, q1⟩ := mkTerms x.given.terms (h.2 x hm) fu hf (k + 3) (by omega) (by omega)
      have hi := (List.getElem?_eq_some_iff.1 hx).1
      refine ⟨⟨k, k + 1, k + 2, ⟨y1, k1⟩⟩, k1 + 1, ?_, ⟨rfl, rfl, rfl, by simp only; rw [g1]; congr 1; omega, by simp only; omega, h0, h1, by omega, by omega⟩, by omega, by omega⟩
      show (if decide ((i : Int) < (a.length : Int)) then _ else _) = _
      have z1 : i64 (k + 1) = k + 1 := i64_id (by omega) (by omega)
      have z2 : i64 (k + 1 + 1) = k + 2 := by rw [i64_id (by omega) (by omega)]; omega
      have z3 : i64 (k + 2 + 1) = k + 3 := by rw [i64_id (by omega) (by omega)]; omega
      rw [mk_lt hx, if_pos rfl, idx_nat, hx, Option.bind_some]
      simp only [Int.toNat_natCast, idx_set_self hx, Option.bind_some, List.set_set, z1, z2, z3, e1, i64_id (n := k1 + 1) (by omega) (by omega)])
    (fun a k i h => by show (if decide ((i : Int) < (a.length : Int)) then _ else _) = _; rw [mk_ge h]; rfl) k fu hf h0 (by omega)
  exact ⟨k', a', by unfold l_markStepS; rw [e]; rfl, hch, h1, by omega⟩
end Go.L
namespace Go.L
open Go Go.E
set_option linter.unusedVariables false
set_option linter.unusedSimpArgs false
set_option maxRecDepth 100000
end Go.L
namespace Go.L
open Go Go.E
set_option linter.unusedVariables false
set_option linter.unusedSimpArgs false
set_option maxRecDepth 100000
theorem heldSteps {a' : List Step} {k k' : Int} (hch : chain PS a' k k') : l_heldStepS a' k = some k' := by
  unfold l_heldStepS
  rw [chain_range (b := l_heldStepS_b1 a') (P := PS) ?_ a' 0 k k' hch]
  · rfl
  · rintro i y k k' ⟨r1, r2, r3, q1, q2, s0, s1, q3, q4⟩
    have z1 : i64 (k + 1) = k + 1 := i64_id (by omega) (by omega)
    have z2 : i64 (k + 1 + 1) = k + 2 := by rw [i64_id (by omega) (by omega)]; omega
    have z3 : i64 (k + 2 + 1) = k + 3 := by rw [i64_id (by omega) (by omega)]; omega
    rw [l_heldStepS_b1]
    simp only [r1, r2, r3, z1, z2, z3, q1, q2, bne_self_eq_false, Bool.false_eq_true, if_false, Option.bind_some]
    rw [if_neg (by simp; omega), i64_id (by omega) (by omega)]
    congr 2
    omega
end Go.L
namespace Go.L
open Go Go.E
set_option linter.unusedSimpArgs false
set_option linter.unusedVariables false
set_option maxRecDepth 100000
def okS (xs : List Step) : Prop := xs.length ≤ 1000 ∧ ∀ s ∈ xs, writeB s = true
def textS (xs : List Step) : List UInt8 := (xs.map lineS).flatMap fun w => w ++ [10]
theorem textS_eq (xs : List Step) : textS xs = xs.flatMap fun s => lineS s ++ [10] := by unfold textS; rw [List.flatMap_map]
theorem fmtS_ok {xs : List Step} (h : okS xs) : fmtS xs = textS xs := by
  unfold fmtS
  rw [if_pos ⟨h.1, List.all_eq_true.2 h.2⟩, textS_eq]
theorem fmtS_not {xs : List Step} (h : ¬ okS xs) : fmtS xs = [] := by
  unfold fmtS
  rw [if_neg]
  rintro ⟨h1, h2⟩
  exact h ⟨h1, List.all_eq_true.1 h2⟩
theorem lineS_not10 (s : Step) : (10 : UInt8) ∉ lineS s := by
  unfold lineS
  intro h
  rcases List.mem_append.1 h with h | h
  · exact wordS_not (by decide) _ h
  · rcases List.mem_cons.1 h with h | h
    · exact absurd h (by decide)
    · unfold argT at h
      split at h
      · exact conT_no10 _ h
      · split at h
        · exact litT_no10 _ h
        · split at h
          · exact dec_no10 _ h
          · rcases List.mem_append.1 h with h | h
            · exact dec_no10 _ h
            · rcases List.mem_cons.1 h with h | h
              · exact absurd h (by decide)
              · exact dec_no10 _ h
theorem split_textS (xs : List Step) : splitC 10 (textS xs) = xs.map lineS ++ [[]] := by
  unfold textS
  refine split_lines _ _ fun w hw => ?_
  obtain ⟨s, _, rfl⟩ := List.mem_map.1 hw
  exact lineS_not10 s
theorem lines_inj : ∀ {xs ys : List Step}, (∀ s ∈ xs, writeB s = true) → (∀ s ∈ ys, writeB s = true) → xs.map lineS = ys.map lineS → xs = ys
  | [], [], _, _, _ => rfl
  | [], _ :: _, _, _, h => by simp at h
  | _ :: _, [], _, _, h => by simp at h
  | x :: xs, y :: ys, hx, hy, h => by
    rw [List.map_cons, List.map_cons, List.cons.injEq] at h
    rw [line_inj (hx x (by simp)) (hy y (by simp)) h.1, lines_inj (fun s hs => hx s (by simp [hs])) (fun s hs => hy s (by simp [hs])) h.2]
theorem textS_inj {xs ys : List Step} (hx : okS xs) (hy : okS ys) (h : textS xs = textS ys) : xs = ys := by
  have := congrArg (splitC 10) h
  rw [split_textS, split_textS] at this
  exact lines_inj hx.2 hy.2 (List.append_cancel_right this)
noncomputable def parseT (l : List UInt8) : List Step × Bool := open Classical in if h : ∃ xs, okS xs ∧ textS xs = l then (h.choose, true) else ([], false)
theorem parseT_ok {xs : List Step} (h : okS xs) : parseT (textS xs) = (xs, true) := by
  have hx : ∃ ys, okS ys ∧ textS ys = textS xs := ⟨xs, h, rfl⟩
  unfold parseT
  rw [dif_pos hx]
  exact Prod.ext (textS_inj hx.choose_spec.1 h hx.choose_spec.2) rfl
theorem parseT_no {l : List UInt8} (h : ∀ xs, okS xs → textS xs ≠ l) : parseT l = ([], false) := by
  unfold parseT
  rw [dif_neg]
  rintro ⟨xs, h1, h2⟩
  exact h xs h1 h2
theorem write_given {s : Step} (h : writeB s = true) : s.given.terms.length ≤ 12 := by
  obtain ⟨_, ⟨_, h2, _⟩ | ⟨_, _, h3⟩ | ⟨_, _, _, _, h3⟩ | ⟨_, _, _, _, _, h3⟩⟩ := write_parts h
  · exact (okCon_parts h2).2.1
  all_goals
    rw [h3]
    simp
theorem parseT_small (l : List UInt8) : smSs (parseT l).1 := by
  by_cases hx : ∃ xs, okS xs ∧ textS xs = l
  · obtain ⟨xs, h1, rfl⟩ := hx
    rw [parseT_ok h1]
    exact ⟨by have := h1.1; simp only; omega, fun s hs => by have := write_given (h1.2 s hs); unfold smC; omega⟩
  · rw [parseT_no fun xs h1 h2 => hx ⟨xs, h1, h2⟩]
    exact ⟨by simp, by simp⟩
theorem i_parseT {l : List UInt8} (h : l.length ≤ 1048576) {fu : Nat} (hf : 100 ≤ fu) : i_ParseProof fu (bs l) = some (parseT l) := by
  have hw : ∀ w ∈ splitC 10 l, w.length ≤ 1048576 := fun w hm => Nat.le_trans (splitC_mem hm) h
  have hwl := splitC_len 10 l
  have hback := split_back 10 l
  have hne : (splitC 10 l).length ≠ 0 := by rw [Ne, List.length_eq_zero_iff]; exact splitC_ne 10 l
  have hxs : ∀ xs, okS xs → textS xs = l → splitC 10 l = xs.map lineS ++ [[]] := fun xs _ e => by rw [← e, split_textS]
  unfold i_ParseProof
  rw [i_lines h, Option.bind_some]
  generalize splitC 10 l = ws at *
  simp only []
  by_cases hc : ((ws.getD (ws.length - 1) [] == []) && decide (((ws.length - 1 : Nat) : Int) ≤ 1000)) = true
  · rw [hc]
    simp only [Bool.not_true, Bool.false_eq_true, if_false]
    rw [Bool.and_eq_true, beq_iff_eq, decide_eq_true_eq] at hc
    rw [hc.1, List.append_nil] at hback
    have hlines : ∀ w ∈ ws.take (ws.length - 1), w.length ≤ 1048576 := fun w hm => hw w (List.mem_of_mem_take hm)
    have hll : (ws.take (ws.length - 1)).length ≤ 1000 := by rw [List.length_take]; omega
    have hxs2 : ∀ xs, okS xs → textS xs = l → ws.take (ws.length - 1) = xs.map lineS := fun xs hx e => by
      rw [hxs xs hx e]
      simp
    generalize ws.take (ws.length - 1) = lines at *
    obtain ⟨j, hj, hQ⟩ := range_inv (b := i_ParseProof_b1 fu) (lines.map bs) (fun i (o : List Step) => (∀ s ∈ o, writeB s = true) ∧ o.map lineS = lines.take i)
      (fun j => match j with | .nx o => (∀ s ∈ o, writeB s = true) ∧ o.map lineS = lines | .out t => t = ([], false) ∧ ∀ xs : List Step, (∀ s ∈ xs, writeB s = true) → xs.map lineS ≠ lines) (by
        rintro o ⟨h1, h2⟩
        rw [List.length_map, List.take_length] at h2
        exact ⟨h1, h2⟩) (by
        rintro i x o hx ⟨h1, h2⟩
        rw [List.getElem?_map] at hx
        cases hli : lines[i]? with
        | none => rw [hli] at hx; cases hx
        | some w =>
          rw [hli] at hx
          cases hx
          have hi := (List.getElem?_eq_some_iff.1 hli).1
          have hol : o.length = i := by have := congrArg List.length h2; rw [List.length_map, List.length_take] at this; omega
          obtain ⟨s, hs, hs2⟩ := i_readS (hlines w (List.mem_of_getElem? hli)) hf
          unfold i_ParseProof_b1
          simp only []
          rw [hs, Option.bind_some]
          simp only []
          cases hb : (writeB s && (lineS s == w)) with
          | true =>
            rw [Bool.and_eq_true, beq_iff_eq] at hb
            rw [if_neg (by simp), app_le (by simp; omega), Option.bind_some]
            refine ⟨_, rfl, fun q hq => ?_, ?_⟩
            · rcases List.mem_append.1 hq with h | h
              · exact h1 q h
              · rw [List.mem_singleton.1 h]; exact hb.1
            · rw [List.map_append, h2, List.take_add_one, hli]
              simp [hb.2]
          | false =>
            rw [if_pos (by simp)]
            refine ⟨_, rfl, rfl, fun xs hx e => ?_⟩
            have hxi : i < xs.length := by have := congrArg List.length e; rw [List.length_map] at this; omega
            have hlx : lineS xs[i] = w := by
              have := hli
              rw [← e, List.getElem?_map, List.getElem?_eq_getElem hxi] at this
              simpa using this
            have hwx := hx xs[i] (List.getElem_mem hxi)
            have := hs2.2 xs[i] hwx hlx
            rw [this, hwx, hlx] at hb
            simp at hb) [] ⟨by simp, by simp⟩
    rw [hj, Option.bind_some]
    cases j with
    | nx o =>
      obtain ⟨h1, h2⟩ := hQ
      have hok : okS o := ⟨by have := congrArg List.length h2; rw [List.length_map] at this; omega, h1⟩
      have ht : textS o = l := by unfold textS; rw [h2]; exact hback
      simp only []
      rw [← ht, parseT_ok hok]
    | out t =>
      obtain ⟨rfl, h2⟩ := hQ
      simp only []
      rw [parseT_no fun xs hx e => h2 xs hx.2 (hxs2 xs hx e).symm]
  · have hc2 : ((ws.getD (ws.length - 1) [] == []) && decide (((ws.length - 1 : Nat) : Int) ≤ 1000)) = false := by simpa using hc
    rw [hc2]
    simp only [Bool.not_false, if_true]
    rw [parseT_no fun xs hx e => ?_]
    apply hc
    have hws := hxs xs hx e
    have hlen : ws.length = xs.length + 1 := by rw [hws]; simp
    have hlast : ws.getD (ws.length - 1) [] = [] := by
      unfold List.getD
      rw [hlen, hws, List.getElem?_append_right (by simp)]
      simp
    rw [hlast, hlen]
    have := hx.1
    simp
    omega
theorem s_parseT {l : List UInt8} (h : l.length ≤ 1048576) {fu : Nat} (hf : 2000 ≤ fu) : s_ParseProof fu (bs l) = some (parseT l) := by
  have hw : ∀ w ∈ splitC 10 l, w.length ≤ 1048576 := fun w hm => Nat.le_trans (splitC_mem hm) h
  have hwl := splitC_len 10 l
  have hne : (splitC 10 l).length ≠ 0 := by rw [Ne, List.length_eq_zero_iff]; exact splitC_ne 10 l
  have hnil : l = [] → splitC 10 l = [[]] := fun e => by rw [e]; rfl
  have hxs : ∀ xs, okS xs → textS xs = l → splitC 10 l = xs.map lineS ++ [[]] := fun xs _ e => by rw [← e, split_textS]
  unfold s_ParseProof
  rw [show ((10 : Int)) = ((10 : Nat) : Int) from rfl, s_cut (by omega) h, show UInt8.ofNat 10 = 10 from rfl, Option.bind_some]
  generalize splitC 10 l = ws at *
  rw [List.length_map]
  by_cases hc : ws.length ≤ 1001
  · rw [if_neg (by simp only [decide_eq_true_eq]; omega)]
    obtain ⟨j, hj, o, i, hjq, ho, hr⟩ := while_inv (b := s_ParseProof_b1 fu (ws.map bs)) (fun n s => ∃ o : List Step, s = (o, (o.length : Int)) ∧ o.length + 1 ≤ ws.length ∧ (∀ (k : Nat) (s : Step), o[k]? = some s → RS (ws.getD k []) s) ∧ n = ws.length - o.length)
      (fun j => ∃ (o : List Step) (i : Int), j = .nx (o, i) ∧ o.length + 1 = ws.length ∧ (∀ (k : Nat) (s : Step), o[k]? = some s → RS (ws.getD k []) s)) (by
        rintro n s ⟨o, rfl, h1, h2, rfl⟩
        unfold s_ParseProof_b1
        simp only [List.length_map]
        rw [i64_id (n := (o.length : Int) + 1) (by omega) (by omega)]
        by_cases hlt : o.length + 1 < ws.length
        · obtain ⟨s, hs, hs2⟩ := s_readS (getD_ws hw o.length) (show 100 ≤ fu by omega)
          rw [if_pos (by simp only [decide_eq_true_eq]; omega), idx_ws (by omega), Option.bind_some, hs, Option.bind_some, app_le (by simp; omega), Option.bind_some]
          refine ⟨_, rfl, ws.length - (o.length + 1), by omega, o ++ [s], ?_, by simp; omega, fun k s' hk => ?_, by simp⟩
          · rw [List.length_append, List.length_singleton]
            rfl
          · by_cases hkl : k < o.length
            · rw [List.getElem?_append_left hkl] at hk
              exact h2 k s' hk
            · have hk2 := (List.getElem?_eq_some_iff.1 hk).1
              simp at hk2
              have : k = o.length := by omega
              subst this
              simp at hk
              subst hk
              exact hs2
        · rw [if_neg (by simp only [decide_eq_true_eq]; omega)]
          exact ⟨_, rfl, o, _, rfl, by omega, h2⟩) fu ws.length ([], 0) ⟨[], rfl, by simp; omega, by simp, by simp⟩ (by omega)
    subst hjq
    rw [hj, Option.bind_some]
    simp only []
    have hg : ∀ s ∈ o, s.given.terms.length ≤ ML := fun s hs => by
      obtain ⟨k, hk, rfl⟩ := List.mem_iff_getElem.1 hs
      have := (hr k _ (List.getElem?_eq_getElem hk)).1
      unfold ML
      omega
    rw [s_fmtS o hg (by omega), Option.bind_some, eq_bs]
    have huniq : ∀ xs, okS xs → textS xs = l → o = xs := fun xs hx e => by
      have hws := hxs xs hx e
      have hlen : o.length = xs.length := by have := congrArg List.length hws; simp at this; omega
      apply List.ext_getElem hlen
      intro i hi hi2
      refine (hr i _ (List.getElem?_eq_getElem hi)).2 _ (hx.2 _ (List.getElem_mem hi2)) ?_
      unfold List.getD
      rw [hws, List.getElem?_append_left (by simpa using hi2), List.getElem?_map, List.getElem?_eq_getElem hi2]
      rfl
    by_cases he : fmtS o = l
    · rw [he]
      simp only [beq_self_eq_true, Bool.not_true, Bool.false_eq_true, if_false]
      by_cases hok : okS o
      · rw [← he, fmtS_ok hok, parseT_ok hok]
      · exfalso
        rw [fmtS_not hok] at he
        have := hnil he.symm
        rw [this] at ho
        simp at ho
        exact hok ⟨by rw [ho]; simp, by rw [ho]; simp⟩
    · rw [show (!(fmtS o == l)) = true from by simpa using he]
      simp only [if_true]
      rw [parseT_no fun xs hx e => ?_]
      have := huniq xs hx e
      subst this
      exact he (by rw [fmtS_ok hx, e])
  · rw [if_pos (by simp only [decide_eq_true_eq]; omega), parseT_no fun xs hx e => ?_]
    have hws := hxs xs hx e
    have hlen : ws.length = xs.length + 1 := by rw [hws]; simp
    have := hx.1
    omega
theorem FnExactParseProof_ok (aText : ByteArray) (g0 : aText.size ≤ maxLen) : ∃ fu, l_FnExactParseProof fu aText = some true := by
  refine ⟨FV, ?_⟩
  unfold l_FnExactParseProof
  split
  · rfl
  · rename_i hs
    obtain ⟨l, rfl⟩ : ∃ l, aText = bs l := ⟨_, bs_of aText⟩
    have hl : l.length ≤ 1048576 := by rw [bs_size] at hs; simp only [decide_eq_true_eq] at hs; omega
    obtain ⟨k', a', e1, hch, h1, h2⟩ := mkSteps (parseT l).1 (parseT_small l) FV (Nat.le_refl _) 1 (by omega) (by omega)
    have e2 := heldSteps hch
    simp only [s_parseT hl (show 2000 ≤ FV by decide), i_parseT hl (show 100 ≤ FV by decide), Option.bind_some, eqSteps, e1, e2]
    have n1 : decide (k' < 0) = false := by simp only [decide_eq_false_iff_not]; omega
    simp [n1]
end Go.L
