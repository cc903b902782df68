/- The plain law: what the functions compute, and that it answers as the statement says. -/
import Derived.Test.YtnjcihhfoocdcaaDoorG10
import Derived.Test.YtnjcihhfoocdcaaDoorD1
import Derived.Lib.ItoaMem
import Derived.Lib.SplitLaws
namespace Go.L
open Go Go.E
set_option linter.unusedVariables false
def ML : Nat := 9223372036854775807
section
variable {α β σ τ : Type}
theorem idx_nat (xs : List α) (i : Nat) : idx xs (i : Int) = xs[i]? := by
  unfold idx; rw [if_pos (Int.natCast_nonneg i), Int.toNat_natCast]
theorem idx_lt {xs : List α} {i : Nat} (h : i < xs.length) : idx xs (i : Int) = some xs[i] := by rw [idx_nat, List.getElem?_eq_getElem h]
theorem idx_get {xs : List α} {k : Int} (h0 : 0 ≤ k) (h : k.toNat < xs.length) : idx xs k = some xs[k.toNat] := by
  unfold idx; rw [if_pos h0, List.getElem?_eq_getElem h]
theorem sl_pre {xs : List α} {i : Nat} (h : i ≤ xs.length) : sl xs 0 (i : Int) = some (xs.take i) := by
  unfold sl
  rw [if_pos (by omega), Int.toNat_natCast]
  rfl
theorem app_le {xs ys : List α} (h : xs.length + ys.length ≤ 4294967296) : app xs ys = some (xs ++ ys) := if_pos h
theorem cntF_nat {n : Nat} (h : n ≤ 4294967296) : cntF 0 (n : Int) = some n := by
  unfold cntF
  rw [if_pos (by omega)]
  congr 1
theorem range_to {b : Nat → α → σ → Option (Lo σ τ)} (F : Nat → σ) (xs0 : List α) (h : ∀ i x, xs0[i]? = some x → b i x (F i) = some (.cont (F (i + 1)))) :
    rangeL b xs0 0 (F 0) = some (.nx (F xs0.length)) := by
  have key : ∀ (xs : List α) (i : Nat), xs0.drop i = xs → i ≤ xs0.length → rangeL b xs i (F i) = some (.nx (F xs0.length)) := by
    intro xs
    induction xs with
    | nil =>
      intro i hd hi
      rw [List.drop_eq_nil_iff] at hd
      obtain rfl : i = xs0.length := by omega
      rfl
    | cons x xs ih =>
      intro i hd hi
      have hx := drop_idx hd
      rw [idx_nat] at hx
      show (b i x (F i)).bind _ = _
      rw [h i x hx]
      exact ih (i + 1) (drop_next hd) (List.getElem?_eq_some_iff.1 hx).1
  exact key xs0 0 rfl (Nat.zero_le _)
theorem count_to {b : Nat → σ → Option (Lo σ τ)} (F : Nat → σ) : ∀ (n s : Nat), (∀ i, s ≤ i → i < s + n → b i (F i) = some (.cont (F (i + 1)))) → countL b n s (F s) = some (.nx (F (s + n)))
  | 0, s, _ => rfl
  | n + 1, s, h => by
    show (b s (F s)).bind _ = _
    rw [h s (Nat.le_refl _) (by omega)]
    show countL b n (s + 1) (F (s + 1)) = _
    rw [count_to F n (s + 1) fun i h1 h2 => h i (by omega) (by omega)]
    congr 3; omega
theorem range_inv {b : Nat → α → σ → Option (Lo σ τ)} (xs0 : List α) (I : Nat → σ → Prop) (Q : Jn σ τ → Prop) (h0 : ∀ s, I xs0.length s → Q (.nx s))
    (h : ∀ i x s, xs0[i]? = some x → I i s → ∃ o, b i x s = some o ∧ (match o with | .cont s' => I (i + 1) s' | .brk s' => Q (.nx s') | .out t => Q (.out t))) (s : σ) (hs : I 0 s) :
    ∃ j, rangeL b xs0 0 s = some j ∧ Q j := by
  have key : ∀ (xs : List α) (i : Nat) (s : σ), xs0.drop i = xs → i ≤ xs0.length → I i s → ∃ j, rangeL b xs i s = some j ∧ Q j := by
    intro xs
    induction xs with
    | nil =>
      intro i s hd hi hI
      rw [List.drop_eq_nil_iff] at hd
      obtain rfl : i = xs0.length := by omega
      exact ⟨_, rfl, h0 s hI⟩
    | cons x xs ih =>
      intro i s hd hi hI
      have hx := drop_idx hd
      rw [idx_nat] at hx
      obtain ⟨o, hb, ho⟩ := h i x s hx hI
      have hl := (List.getElem?_eq_some_iff.1 hx).1
      cases o with
      | cont s' =>
        obtain ⟨j, hj, hQ⟩ := ih (i + 1) s' (drop_next hd) hl ho
        exact ⟨j, by show (b i x s).bind _ = _; rw [hb]; exact hj, hQ⟩
      | brk s' => exact ⟨_, by show (b i x s).bind _ = _; rw [hb]; rfl, ho⟩
      | out t => exact ⟨_, by show (b i x s).bind _ = _; rw [hb]; rfl, ho⟩
  exact key xs0 0 s rfl (Nat.zero_le _) hs
theorem count_inv {b : Nat → σ → Option (Lo σ τ)} (I : Nat → σ → Prop) (Q : Jn σ τ → Prop) : ∀ (n k : Nat) (h0 : ∀ s, I (k + n) s → Q (.nx s))
    (h : ∀ i s, k ≤ i → i < k + n → I i s → ∃ o, b i s = some o ∧ (match o with | .cont s' => I (i + 1) s' | .brk s' => Q (.nx s') | .out t => Q (.out t))) (s : σ) (hs : I k s),
    ∃ j, countL b n k s = some j ∧ Q j
  | 0, k, h0, h, s, hs => ⟨_, rfl, h0 s hs⟩
  | n + 1, k, h0, h, s, hs => by
    obtain ⟨o, hb, ho⟩ := h k s (Nat.le_refl _) (by omega) hs
    cases o with
    | cont s' =>
      obtain ⟨j, hj, hQ⟩ := count_inv I Q n (k + 1) (fun s hs => h0 s (by rwa [show k + (n + 1) = k + 1 + n from by omega])) (fun i s h1 h2 => h i s (by omega) (by omega)) s' ho
      exact ⟨j, by show (b k s).bind _ = _; rw [hb]; exact hj, hQ⟩
    | brk s' => exact ⟨_, by show (b k s).bind _ = _; rw [hb]; rfl, ho⟩
    | out t => exact ⟨_, by show (b k s).bind _ = _; rw [hb]; rfl, ho⟩
theorem while_inv {b : σ → Option (Lo σ τ)} (I : Nat → σ → Prop) (Q : Jn σ τ → Prop)
    (h : ∀ n s, I n s → ∃ o, b s = some o ∧ (match o with | .cont s' => ∃ m, m < n ∧ I m s' | .brk s' => Q (.nx s') | .out t => Q (.out t))) :
    ∀ k n s, I n s → n < k → ∃ j, whileL b k s = some j ∧ Q j := by
  intro k
  induction k with
  | zero => intro n s _ h; omega
  | succ k ih =>
    intro n s hI hk
    obtain ⟨o, hb, ho⟩ := h n s hI
    cases o with
    | cont s' =>
      obtain ⟨m, hm, hI'⟩ := ho
      obtain ⟨j, hj, hQ⟩ := ih m s' hI' (by omega)
      exact ⟨j, by show (b s).bind _ = _; rw [hb]; exact hj, hQ⟩
    | brk s' => exact ⟨_, by show (b s).bind _ = _; rw [hb]; rfl, ho⟩
    | out t => exact ⟨_, by show (b s).bind _ = _; rw [hb]; rfl, ho⟩
def allFrom (q : Nat → α → Bool) : List α → Nat → Bool
  | [], _ => true
  | x :: xs, i => q i x && allFrom q xs (i + 1)
theorem allFrom_const (q : α → Bool) : ∀ (xs : List α) (i : Nat), allFrom (fun _ x => q x) xs i = xs.all q
  | [], _ => rfl
  | x :: xs, i => by rw [allFrom, allFrom_const q xs, List.all_cons]
theorem range_allI (q : Nat → α → Bool) (t : τ) {b : Nat → α → Unit → Option (Lo Unit τ)} (xs0 : List α)
    (hb : ∀ (i : Nat) (x : α), xs0[i]? = some x → b i x () = some (if q i x then .cont () else .out t)) : rangeL b xs0 0 () = some (if allFrom q xs0 0 then .nx () else .out t) := by
  have key : ∀ (xs : List α) (i : Nat), xs0.drop i = xs → rangeL b xs i () = some (if allFrom q xs i then .nx () else .out t) := by
    intro xs
    induction xs with
    | nil => intro i _; rfl
    | cons x xs ih =>
      intro i h
      have hx := drop_idx h
      rw [idx_nat] at hx
      show (b i x ()).bind _ = _
      rw [hb i x hx]
      cases hq : q i x with
      | true => show rangeL b xs (i + 1) () = _; rw [ih (i + 1) (drop_next h)]; simp [allFrom, hq]
      | false => simp [allFrom, hq]
  exact key xs0 0 rfl
theorem range_all (q : α → Bool) (t : τ) {b : Nat → α → Unit → Option (Lo Unit τ)} (xs0 : List α)
    (hb : ∀ (i : Nat) (x : α), xs0[i]? = some x → b i x () = some (if q x then .cont () else .out t)) : rangeL b xs0 0 () = some (if xs0.all q then .nx () else .out t) := by
  rw [range_allI (fun _ => q) t xs0 hb, allFrom_const]
end
end Go.L
namespace Go.L
open Go Go.E
set_option linter.unusedSimpArgs false
set_option linter.unusedVariables false
theorem bs_list (l : List UInt8) : (bs l).data.toList = l := by simp [bs]
theorem bs_size (l : List UInt8) : (bs l).size = l.length := by show l.toArray.size = _; simp
theorem bs_of (s : ByteArray) : s = bs s.data.toList := (bs_data s).symm
theorem cat_bs {a b : List UInt8} (h : a.length + b.length ≤ 9223372036854775807) : cat (bs a) (bs b) = some (bs (a ++ b)) := by
  unfold cat
  rw [if_pos (by rw [bs_size, bs_size]; exact h)]
  simp only [bs]
  exact congrArg some (ByteArray.ext (by simp))
theorem eq_bs (a b : List UInt8) : (ByteArray.toList (bs a) == ByteArray.toList (bs b)) = (a == b) := by
  simp only [bs, ByteArray.toList_mk]
theorem sidx_bs (l : List UInt8) (k : Int) : sidx (bs l) k = idx l k := by unfold sidx; rw [bs_list]
theorem ssl_bs {l : List UInt8} {a b : Int} (h0 : 0 ≤ a) (h1 : a ≤ b) (h2 : b ≤ (l.length : Int)) : ssl (bs l) a b = some (bs ((l.drop a.toNat).take (b.toNat - a.toNat))) := by
  unfold ssl
  rw [if_pos ⟨h0, h1, by rw [bs_size]; exact h2⟩]
  show some ((ByteArray.mk l.toArray).extract _ _) = _
  rw [ByteArray.extract_mk]
  rfl
theorem ssl_from {l : List UInt8} {a : Nat} (h : a ≤ l.length) : ssl (bs l) (a : Int) ((bs l).size : Int) = some (bs (l.drop a)) := by
  rw [bs_size, ssl_bs (by omega) (by omega) (by omega)]
  simp [List.take_of_length_le]
def dec (n : Nat) : List UInt8 := Go.Lib.decDigits n
theorem dec_small {n : Nat} (h : n < 10) : dec n = [UInt8.ofNat (48 + n)] := Go.Lib.decDigits_one h
theorem dec_big {n : Nat} (h : ¬ n < 10) : dec n = dec (n / 10) ++ [UInt8.ofNat (48 + n % 10)] := by
  unfold dec
  rw [Go.Lib.decDigits, dif_neg h]
theorem dec_len : ∀ (k n : Nat), n < 10 ^ (k + 1) → (dec n).length ≤ k + 1
  | 0, n, h => by rw [dec_small (by simpa using h)]; simp
  | k + 1, n, h => by
    by_cases hn : n < 10
    · rw [dec_small hn]; simp
    · rw [dec_big hn, List.length_append]
      have := dec_len k (n / 10) (by rw [Nat.div_lt_iff_lt_mul (by omega)]; rw [Nat.pow_succ] at h; omega)
      simp; omega
theorem dec_pos (n : Nat) : 1 ≤ (dec n).length := by
  by_cases hn : n < 10
  · rw [dec_small hn]; simp
  · rw [dec_big hn]; simp
theorem dec_len20 {n : Nat} (h : n ≤ 9223372036854775807) : (dec n).length ≤ 19 := dec_len 18 n (by omega)
theorem dec_digit : ∀ (n : Nat), ∀ b ∈ dec n, 48 ≤ b.toNat ∧ b.toNat ≤ 57 := by
  intro n
  induction n using Nat.strongRecOn with
  | ind n ih =>
    intro b hb
    by_cases hn : n < 10
    · rw [dec_small hn] at hb
      obtain rfl := List.mem_singleton.1 hb
      rw [UInt8.toNat_ofNat']
      omega
    · rw [dec_big hn] at hb
      rcases List.mem_append.1 hb with h | h
      · exact ih _ (by omega) b h
      · obtain rfl := List.mem_singleton.1 h
        rw [UInt8.toNat_ofNat']
        omega
def val (a : Nat) (l : List UInt8) : Nat := l.foldl (fun a b => a * 10 + (b.toNat - 48)) a
theorem val_ge : ∀ (l : List UInt8) (a : Nat), a ≤ val a l
  | [], a => Nat.le_refl a
  | b :: l, a => Nat.le_trans (by omega) (val_ge l (a * 10 + (b.toNat - 48)))
theorem val_dec : ∀ n, val 0 (dec n) = n := by
  intro n
  induction n using Nat.strongRecOn with
  | ind n ih =>
    by_cases hn : n < 10
    · rw [dec_small hn]
      simp only [val, List.foldl_cons, List.foldl_nil, UInt8.toNat_ofNat']
      omega
    · rw [dec_big hn]
      have := ih (n / 10) (by omega)
      unfold val at this ⊢
      rw [List.foldl_append, this]
      simp only [List.foldl_cons, List.foldl_nil, UInt8.toNat_ofNat']
      omega
theorem dec_head : ∀ (n : Nat), n ≠ 0 → (dec n)[0]? ≠ some 48 := by
  intro n
  induction n using Nat.strongRecOn with
  | ind n ih =>
    intro h0
    by_cases hn : n < 10
    · rw [dec_small hn]
      simp only [List.getElem?_cons_zero, ne_eq, Option.some.injEq]
      intro h
      have := congrArg UInt8.toNat h
      rw [UInt8.toNat_ofNat'] at this
      simp at this
      omega
    · rw [dec_big hn, List.getElem?_append_left (by have := dec_pos (n / 10); omega)]
      exact ih _ (by omega) (by omega)
theorem wrap_u8 {x : Int} (h0 : 0 ≤ x) (h1 : x < 256) : IntKind.u8.wrap x = x := by
  unfold IntKind.wrap IntKind.bits IntKind.signed
  simp
  omega
theorem u8w_nat {m : Nat} (h : m < 256) : u8w (m : Int) = UInt8.ofNat m := by
  unfold u8w
  rw [wrap_u8 (by omega) (by omega)]
  rfl
theorem itoa_nat {n : Nat} (h : n ≤ 9223372036854775807) : strconv_Itoa (n : Int) = some (bs (dec n)) := by
  unfold strconv_Itoa
  rw [if_pos ⟨by omega, by omega⟩, Go.Lib.itoa_nonneg]
  rfl
theorem itoa_of {n : Int} (h0 : 0 ≤ n) (h : n ≤ 9223372036854775807) : strconv_Itoa n = some (bs (dec n.toNat)) := by
  have := itoa_nat (n := n.toNat) (by omega)
  rwa [show ((n.toNat : Nat) : Int) = n by omega] at this
theorem s_dec_loop (n : Nat) (hn : n ≤ 9223372036854775807) (fu : Nat) (hf : 30 ≤ fu) : ∃ j, whileL s_l17Dec_b1 fu ((n : Int), (⟨#[]⟩ : ByteArray)) = some j ∧ ∃ (m : Nat) (o : List UInt8), j = .nx ((m : Int), bs o) ∧ m < 10 ∧ dec n = dec m ++ o := by
  refine while_inv (fun k s => ∃ (m : Nat) (o : List UInt8), s = ((m : Int), bs o) ∧ m ≤ n ∧ dec n = dec m ++ o ∧ k = (dec m).length) _ ?_ fu (dec n).length _ ⟨n, [], rfl, Nat.le_refl _, by simp, rfl⟩ (by have := dec_len20 hn; omega)
  rintro k s ⟨m, o, rfl, hm, hd, rfl⟩
  unfold s_l17Dec_b1
  by_cases h : m < 10
  · simp only []
    rw [if_neg (by simp only [decide_eq_true_eq]; omega)]
    exact ⟨_, rfl, m, o, rfl, h, hd⟩
  · simp only []
    have hl := dec_len20 hn
    rw [hd, List.length_append] at hl
    have hm1 := dec_pos m
    rw [if_pos (by simp only [decide_eq_true_eq]; omega), show Int.tmod (m : Int) 10 = ((m % 10 : Nat) : Int) from by rw [Int.tmod_eq_emod_of_nonneg (by omega)]; omega,
      show (i64 (48 + ((m % 10 : Nat) : Int))) = ((48 + m % 10 : Nat) : Int) from by rw [i64_id (by omega) (by omega)]; omega, u8w_nat (by omega), cat_bs (by simp; omega), Option.bind_some]
    refine ⟨_, rfl, _, ?_, m / 10, UInt8.ofNat (48 + m % 10) :: o, ?_, by omega, ?_, rfl⟩
    · rw [dec_big h]; simp
    · rw [show Int.tdiv (m : Int) 10 = ((m / 10 : Nat) : Int) from by rw [Int.tdiv_eq_ediv_of_nonneg (by omega)]; omega, i64_id (by omega) (by omega)]
      rfl
    · rw [hd, dec_big h]; simp
theorem s_dec {n : Nat} (hn : n ≤ 9223372036854775807) {fu : Nat} (hf : 30 ≤ fu) : s_l17Dec fu (n : Int) = some (bs (dec n)) := by
  obtain ⟨k, rfl⟩ : ∃ k, fu = k + 1 := ⟨fu - 1, by omega⟩
  unfold s_l17Dec
  show s_l17Dec_F (k + 1) (s_l17Dec_R (k + 1) k) (n : Int) = _
  unfold s_l17Dec_F
  rw [if_neg (by simp only [decide_eq_true_eq]; omega), if_neg (by simp only [decide_eq_true_eq]; omega)]
  obtain ⟨j, hj, m, o, rfl, hm, hd⟩ := s_dec_loop n hn (k + 1) hf
  rw [hj, Option.bind_some]
  have hl := dec_len20 hn
  rw [hd, List.length_append] at hl
  have hm1 := dec_pos m
  show Option.bind (cat (bs [u8w (i64 (48 + (m : Int)))]) (bs o)) _ = _
  rw [show (i64 (48 + (m : Int))) = ((48 + m : Nat) : Int) from by rw [i64_id (by omega) (by omega)]; omega, u8w_nat (by omega), cat_bs (by simp; omega), Option.bind_some, hd, dec_small hm]
theorem s_dec_of {n : Int} (h0 : 0 ≤ n) (h : n ≤ 9223372036854775807) {fu : Nat} (hf : 30 ≤ fu) : s_l17Dec fu n = some (bs (dec n.toNat)) := by
  have := s_dec (n := n.toNat) (by omega) hf
  rwa [show ((n.toNat : Nat) : Int) = n by omega] at this
end Go.L
namespace Go.L
open Go Go.E
set_option linter.unusedSimpArgs false
set_option linter.unusedVariables false
def splitC (c : UInt8) : List UInt8 → List (List UInt8)
  | [] => [[]]
  | b :: l => if b = c then [] :: splitC c l else match splitC c l with
    | [] => [[b]]
    | w :: ws => (b :: w) :: ws
theorem splitC_ne (c : UInt8) : ∀ l, splitC c l ≠ []
  | [] => by simp [splitC]
  | b :: l => by
    unfold splitC
    split
    · simp
    · split <;> simp
theorem splitC_none {c : UInt8} : ∀ {w : List UInt8}, c ∉ w → splitC c w = [w]
  | [], _ => rfl
  | b :: w, h => by
    have h1 : b ≠ c := fun e => h (by simp [e])
    rw [splitC, if_neg h1, splitC_none (fun e => h (List.mem_cons_of_mem _ e))]
theorem splitC_cut {c : UInt8} : ∀ {w : List UInt8} (r : List UInt8), c ∉ w → splitC c (w ++ c :: r) = w :: splitC c r
  | [], r, _ => by simp [splitC]
  | b :: w, r, h => by
    have h1 : b ≠ c := fun e => h (by simp [e])
    rw [List.cons_append, splitC, if_neg h1, splitC_cut r (fun e => h (List.mem_cons_of_mem _ e))]
theorem splitC_len (c : UInt8) : ∀ l, (splitC c l).length ≤ l.length + 1
  | [] => by simp [splitC]
  | b :: l => by
    have ih := splitC_len c l
    unfold splitC
    split
    · simp; omega
    · split
      · simp
      · rename_i h; rw [h] at ih; simp at ih ⊢; omega
theorem splitC_mem {c : UInt8} : ∀ {l : List UInt8} {w : List UInt8}, w ∈ splitC c l → w.length ≤ l.length
  | [], w, h => by simp [splitC] at h; subst h; simp
  | b :: l, w, h => by
    unfold splitC at h
    split at h
    · rcases List.mem_cons.1 h with rfl | h
      · simp
      · have := splitC_mem h; simp; omega
    · split at h
      · simp at h; subst h; simp
      · rename_i w' ws' e
        rcases List.mem_cons.1 h with rfl | h
        · have := splitC_mem (l := l) (w := w') (by rw [e]; simp); simp; omega
        · have := splitC_mem (l := l) (w := w) (by rw [e]; simp [h]); simp; omega
theorem first_cut {c : UInt8} {l : List UInt8} (h : c ∈ l) : ∃ w r, l = w ++ c :: r ∧ c ∉ w := List.eq_append_cons_of_mem h
theorem index_cut {c : UInt8} : ∀ {w : List UInt8} (r : List UInt8), c ∉ w → Go.Lib.index (w ++ c :: r) [c] = w.length
  | [], r, _ => by simp [Go.Lib.index, List.isPrefixOf]
  | b :: w, r, h => by
    have h1 : c ≠ b := fun e => h (by simp [e])
    have ih := index_cut r (fun e => h (List.mem_cons_of_mem _ e))
    rw [List.cons_append, Go.Lib.index, ih]
    simp [List.isPrefixOf, h1]
theorem splitK_eq (c : UInt8) : ∀ (k : Nat) (l : List UInt8), l.count c = k → Go.Lib.splitK [c] 0 k l = splitC c l
  | 0, l, h => by
    rw [Go.Lib.splitK, splitC_none (List.count_eq_zero.1 h)]
  | k + 1, l, h => by
    obtain ⟨w, r, rfl, hw⟩ := first_cut (List.count_pos_iff.1 (by omega : 0 < l.count c))
    have hr : r.count c = k := by
      rw [List.count_append, List.count_cons_self, List.count_eq_zero.2 hw] at h
      omega
    rw [Go.Lib.splitK, index_cut r hw, if_neg (by simp <;> omega), splitC_cut r hw]
    simp only [Int.toNat_natCast, Nat.add_zero, List.length_cons, List.length_nil]
    rw [List.take_left' rfl, show w ++ c :: r = (w ++ [c]) ++ r by simp, List.drop_left' (by simp), splitK_eq c k r hr]
theorem map_bs (xs : List ByteArray) : xs = (xs.map (·.data.toList)).map bs := by
  induction xs with
  | nil => rfl
  | cons x xs ih => rw [List.map_cons, List.map_cons, ← ih, ← bs_of]
theorem strings_split {l : List UInt8} {c : UInt8} (h : l.length < 4294967281) : strings_Split (bs l) (bs [c]) = some ((splitC c l).map bs) := by
  unfold strings_Split
  rw [if_pos ⟨by rw [bs_size]; exact h, by rw [bs_size]; simp⟩, map_bs (Go.Lib.splitB _ _ _ _), Go.Lib.splitB_data, bs_list, bs_list]
  congr 2
  refine splitK_eq c _ l ?_
  show _ = Go.Lib.count (bs l).data.toList (bs [c]).data.toList
  rw [bs_list, bs_list, Go.Lib.count_one]
theorem s_cut {l : List UInt8} {c : Nat} (hc : c < 256) (h : l.length ≤ 1048576) : s_l17Cut (bs l) (c : Int) = some ((splitC (UInt8.ofNat c) l).map bs) := by
  have hcc : ((UInt8.ofNat c).toNat) = c := by rw [UInt8.toNat_ofNat']; omega
  unfold s_l17Cut
  rw [bs_size, show ((l.length : Int) + 1) = ((l.length + 1 : Nat) : Int) by omega, cntF_nat (by omega), Option.bind_some]
  obtain ⟨j, hj, out, fr, rfl, rfl⟩ : ∃ j, countL (s_l17Cut_b1 (bs l) (c : Int)) (l.length + 1) 0 ([], 0) = some j ∧ ∃ (out : List (List UInt8)) (fr : Int), j = .nx (out.map bs, fr) ∧ out = splitC (UInt8.ofNat c) l := by
    refine count_inv (fun i s => ∃ (out : List (List UInt8)) (fr : Nat), s = (out.map bs, (fr : Int)) ∧ fr ≤ i ∧ out.length ≤ i ∧
      (i ≤ l.length → UInt8.ofNat c ∉ (l.drop fr).take (i - fr) ∧ out ++ splitC (UInt8.ofNat c) (l.drop fr) = splitC (UInt8.ofNat c) l) ∧ (l.length < i → out = splitC (UInt8.ofNat c) l)) _ (l.length + 1) 0 ?_ ?_ _ ⟨[], 0, rfl, Nat.le_refl _, Nat.le_refl _, fun _ => ⟨by simp, by simp⟩, fun h => by omega⟩
    · rintro s ⟨out, fr, rfl, _, _, _, h2⟩
      exact ⟨out, _, rfl, h2 (by omega)⟩
    · rintro i s _ hi ⟨out, fr, rfl, hfr, hol, h1, _⟩
      have hi : i ≤ l.length := by omega
      obtain ⟨h1, h2⟩ := h1 hi
      unfold s_l17Cut_b1
      simp only []
      have hend : ∀ (w : List UInt8), w = (l.drop fr).take (i - fr) → ((ssl (bs l) (fr : Int) (i : Int)).bind fun x23 => (app (out.map bs) ([x23])).bind fun x27 => some (x27, i64 ((i : Int) + 1))) = some ((out ++ [w]).map bs, ((i + 1 : Nat) : Int)) := by
        rintro w rfl
        rw [ssl_bs (by omega) (by omega) (by omega), Option.bind_some, app_le (by simp; omega), Option.bind_some, i64_id (by omega) (by omega)]
        simp
      by_cases he : i = l.length
      · subst he
        rw [if_pos (by simp [bs_size]), Option.bind_some]
        simp only [if_true]
        rw [hend _ rfl]
        simp only [Option.bind_some]
        refine ⟨_, rfl, _, l.length + 1, rfl, by omega, by simp; omega, fun h => by omega, fun _ => ?_⟩
        rw [← h2]
        have h3 : (l.drop fr).take (l.length - fr) = l.drop fr := List.take_of_length_le (by simp)
        rw [h3] at h1 ⊢
        rw [splitC_none h1]
      · have hlt : i < l.length := by omega
        rw [if_neg (by simp only [bs_size, beq_iff_eq]; omega), sidx_bs, idx_lt hlt, Option.bind_some, Option.bind_some]
        by_cases hb : l[i] = UInt8.ofNat c
        · have e1 : (((l[i]).toNat : Int) == (((c : Int).toNat : Nat) : Int)) = true := by rw [hb, hcc]; simp
          rw [e1]
          simp only [if_true]
          rw [hend _ rfl]
          simp only [Option.bind_some]
          refine ⟨_, rfl, _, i + 1, rfl, by omega, by simp; omega, fun _ => ⟨by simp, ?_⟩, fun h => by omega⟩
          rw [← h2, List.append_assoc]
          congr 1
          have hd : l.drop fr = (l.drop fr).take (i - fr) ++ UInt8.ofNat c :: l.drop (i + 1) := by
            have e2 : (l.drop fr).drop (i - fr) = l.drop i := by rw [List.drop_drop]; congr 1; omega
            have e3 : l.drop i = UInt8.ofNat c :: l.drop (i + 1) := by rw [List.drop_eq_getElem_cons hlt, hb]
            rw [← e3, ← e2, List.take_append_drop]
          rw [List.singleton_append]
          conv => rhs; rw [hd]
          rw [splitC_cut _ h1]
        · have e1 : (((l[i]).toNat : Int) == (((c : Int).toNat : Nat) : Int)) = false := by
            simp only [beq_eq_false_iff_ne]
            intro e
            exact hb (UInt8.toNat_inj.1 (by rw [hcc]; omega))
          rw [e1]
          simp only [Bool.false_eq_true, if_false, Option.bind_some]
          refine ⟨_, rfl, out, fr, rfl, by omega, by omega, fun _ => ⟨?_, h2⟩, fun h => by omega⟩
          have e4 : i + 1 - fr = (i - fr) + 1 := by omega
          have e5 : (l.drop fr)[i - fr]? = some l[i] := by rw [List.getElem?_drop, show fr + (i - fr) = i by omega, List.getElem?_eq_getElem hlt]
          rw [e4, List.take_add_one, e5]
          intro hm
          rcases List.mem_append.1 hm with h | h
          · exact h1 h
          · simp at h; exact hb h.symm
  rw [hj, Option.bind_some]
end Go.L
namespace Go.L
open Go Go.E
set_option linter.unusedVariables false
set_option linter.unusedSimpArgs false
set_option maxRecDepth 100000
def absI (n : Int) : Int := max n (-n)
def okT (t : Term) : Bool := (t.lit != 0 && decide (-12 ≤ t.lit) && decide (t.lit ≤ 12)) && (decide (1 ≤ t.coef) && decide (t.coef ≤ 1000))
def okTerms : Int → List Term → Bool
  | _, [] => true
  | b, t :: ts => (okT t && decide (b < absI t.lit)) && okTerms (absI t.lit) ts
def okB (b : Int) : Bool := decide (0 ≤ b) && decide (b ≤ 20000)
def okCon (c : Con) : Bool := okTerms 0 c.terms && okB c.bound
theorem i_valid_loop : ∀ (ts : List Term) (i : Nat) (b : Int), ∃ b', rangeL i_ConstraintValid_b1 ts i b = some (if okTerms b ts then .nx b' else .out false)
  | [], i, b => ⟨b, rfl⟩
  | t :: ts, i, b => by
    obtain ⟨b', h⟩ := i_valid_loop ts (i + 1) (absI t.lit)
    refine ⟨b', ?_⟩
    show (i_ConstraintValid_b1 i t b).bind _ = _
    have e : i_ConstraintValid_b1 i t b = some (if okT t && decide (b < absI t.lit) then .cont (absI t.lit) else .out false) := by
      unfold i_ConstraintValid_b1 i_isLiteral i_within i_variableOf okT absI
      by_cases h0 : t.lit = 0
      · simp [h0]
      by_cases h1 : -12 ≤ t.lit ∧ t.lit ≤ 12
      · rw [i64_id (n := -t.lit) (by omega) (by omega)]
        by_cases h2 : 1 ≤ t.coef ∧ t.coef ≤ 1000
        · by_cases h3 : b < max t.lit (-t.lit)
          · have : ¬ max t.lit (-t.lit) ≤ b := by omega
            simp [h0, h1.1, h1.2, h2.1, h2.2, h3, this]
          · have : max t.lit (-t.lit) ≤ b := by omega
            simp [h0, h1.1, h1.2, h2.1, h2.2, h3, this]
        · have h2' : (decide (1 ≤ t.coef) && decide (t.coef ≤ 1000)) = false := by simp; omega
          simp only [h2']
          simp [h0, h1.1, h1.2]
      · have h1' : (decide (-12 ≤ t.lit) && decide (t.lit ≤ 12)) = false := by simp; omega
        simp only [Bool.and_assoc, h1']
        simp [h0]
    rw [e, okTerms]
    cases okT t && decide (b < absI t.lit) with
    | true => simpa using h
    | false => rfl
theorem i_valid (c : Con) : i_ConstraintValid c = some (okCon c) := by
  unfold i_ConstraintValid okCon
  obtain ⟨b', h⟩ := i_valid_loop c.terms 0 0
  rw [h]
  cases okTerms 0 c.terms <;> simp [i_within, okB]
theorem s_abs (n : Int) (h1 : -9223372036854775807 ≤ n) (h2 : n ≤ 9223372036854775807) : s_l1Abs n = some (absI n) := by
  unfold s_l1Abs absI
  by_cases h : n < 0
  · rw [if_pos (by simpa using h), i64_id (by omega) (by omega)]; congr 1; omega
  · rw [if_neg (by simpa using h)]; congr 1; omega
theorem okT_lit {t : Term} (h : okT t = true) : t.lit ≠ 0 ∧ -12 ≤ t.lit ∧ t.lit ≤ 12 ∧ 1 ≤ t.coef ∧ t.coef ≤ 1000 := by
  unfold okT at h
  simp at h
  exact ⟨h.1.1.1, h.1.1.2, h.1.2, h.2.1, h.2.2⟩
theorem s_valid_loop (c : Con) (hl : c.terms.length ≤ ML) : ∀ (ts : List Term) (i : Nat) (b : Int), c.terms.drop i = ts → (i = 0 ∧ b = 0 ∨ ∃ t, 0 < i ∧ c.terms[i - 1]? = some t ∧ okT t = true ∧ b = absI t.lit) →
    rangeL (s_ConstraintValid_b1 c) ts i () = some (if okTerms b ts then .nx () else .out false)
  | [], i, b, _, _ => rfl
  | t :: ts, i, b, hd, hb => by
    show (s_ConstraintValid_b1 c i t ()).bind _ = _
    have e : s_ConstraintValid_b1 c i t () = some (if okT t && decide (b < absI t.lit) then .cont () else .out false) := by
      unfold s_ConstraintValid_b1 s_l1Lit
      by_cases hk : okT t = true
      · obtain ⟨h0, h1, h2, h3, h4⟩ := okT_lit hk
        have e1 : ((!((t.lit != 0) && decide (t.lit ≥ -12) && decide (t.lit ≤ 12)) || decide (t.coef < 1)) || decide (t.coef > 1000)) = false := by simp; omega
        simp only [Option.bind_some, e1, hk]
        have hpos : 0 < absI t.lit := by unfold absI; omega
        rcases hb with ⟨rfl, rfl⟩ | ⟨p, hi, hp, hpk, rfl⟩
        · simp [hpos]
        · obtain ⟨q0, q1, q2, _, _⟩ := okT_lit hpk
          have hil := (List.getElem?_eq_some_iff.1 hp).1
          unfold ML at hl
          have hi2 : decide ((i : Int) > 0) = true := by simpa using hi
          have e2 : idx c.terms (i64 ((i : Int) - 1)) = some p := by
            rw [i64_id (by omega) (by omega), show (i : Int) - 1 = ((i - 1 : Nat) : Int) by omega, idx_nat, hp]
          simp only [hi2, e2, Option.bind_some, s_abs p.lit (by omega) (by omega), s_abs t.lit (by omega) (by omega)]
          by_cases h5 : absI p.lit < absI t.lit
          · have : ¬ absI p.lit ≥ absI t.lit := by omega
            simp [h5, this]
          · have : absI p.lit ≥ absI t.lit := by omega
            simp [h5, this]
      · have hk' : okT t = false := by simpa using hk
        have e1 : ((!((t.lit != 0) && decide (t.lit ≥ -12) && decide (t.lit ≤ 12)) || decide (t.coef < 1)) || decide (t.coef > 1000)) = true := by
          cases hx : ((!((t.lit != 0) && decide (t.lit ≥ -12) && decide (t.lit ≤ 12)) || decide (t.coef < 1)) || decide (t.coef > 1000)) with
          | true => rfl
          | false =>
            exfalso
            apply hk
            unfold okT
            simp at hx ⊢
            omega
        simp only [Option.bind_some, e1, hk']
        rfl
    rw [e, okTerms]
    cases hok : okT t && decide (b < absI t.lit) with
    | true =>
      rw [Bool.and_eq_true] at hok
      simpa using s_valid_loop c hl ts (i + 1) (absI t.lit) (drop_next hd) (.inr ⟨t, by omega, by have := drop_idx hd; rw [idx_nat] at this; simpa using this, hok.1, rfl⟩)
    | false => rfl
theorem s_valid (c : Con) (hl : c.terms.length ≤ ML) : s_ConstraintValid c = some (okCon c) := by
  unfold s_ConstraintValid okCon
  rw [s_valid_loop c hl c.terms 0 0 rfl (.inl ⟨rfl, rfl⟩)]
  cases okTerms 0 c.terms <;> simp [okB]
end Go.L
namespace Go.L
open Go Go.E
set_option linter.unusedVariables false
set_option linter.unusedSimpArgs false
set_option maxRecDepth 100000
theorem okTerms_len : ∀ (ts : List Term) (b : Int), 0 ≤ b → okTerms b ts = true → (ts.length : Int) + b ≤ 12 ∨ ts = []
  | [], _, _, _ => .inr rfl
  | t :: ts, b, hb, h => by
    rw [okTerms, Bool.and_eq_true, Bool.and_eq_true] at h
    obtain ⟨⟨h1, h2⟩, h3⟩ := h
    obtain ⟨h0, l1, l2, _, _⟩ := okT_lit h1
    have h2 := of_decide_eq_true h2
    have ha : absI t.lit ≤ 12 := by unfold absI; omega
    left
    rcases okTerms_len ts (absI t.lit) (by omega) h3 with h | h
    · simp; omega
    · subst h; simp; omega
theorem okTerms_all : ∀ (ts : List Term) (b : Int), okTerms b ts = true → ∀ t ∈ ts, okT t = true
  | [], _, _, t, ht => by cases ht
  | t :: ts, b, h, u, hu => by
    rw [okTerms, Bool.and_eq_true, Bool.and_eq_true] at h
    rcases List.mem_cons.1 hu with rfl | hu
    · exact h.1.1
    · exact okTerms_all ts _ h.2 u hu
theorem okCon_parts {c : Con} (h : okCon c = true) : okTerms 0 c.terms = true ∧ c.terms.length ≤ 12 ∧ (∀ t ∈ c.terms, okT t = true) ∧ 0 ≤ c.bound ∧ c.bound ≤ 20000 := by
  unfold okCon okB at h
  simp at h
  refine ⟨h.1, ?_, okTerms_all _ _ h.1, h.2.1, h.2.2⟩
  rcases okTerms_len _ _ (Int.le_refl 0) h.1 with h | h
  · omega
  · rw [h]; simp
end Go.L
namespace Go.L
open Go Go.E
set_option linter.unusedVariables false
set_option linter.unusedSimpArgs false
set_option maxRecDepth 100000
def So {α : Type} (x : Option α) (P : α → Prop) : Prop := ∃ a, x = some a ∧ P a
section
variable {α β σ τ : Type}
theorem so_some {a : α} {P : α → Prop} (h : P a) : So (some a) P := ⟨a, rfl, h⟩
theorem so_bind {x : Option α} {f : α → Option β} {P : α → Prop} {Q : β → Prop} (hx : So x P) (hf : ∀ a, P a → So (f a) Q) : So (x.bind f) Q := by
  obtain ⟨a, rfl, ha⟩ := hx
  exact hf a ha
theorem so_ite {c : Prop} [Decidable c] {x y : Option α} {P : α → Prop} (h1 : c → So x P) (h2 : ¬ c → So y P) : So (if c then x else y) P := by
  split
  · exact h1 ‹_›
  · exact h2 ‹_›
theorem so_idx {xs : List α} {k : Int} {P : α → Prop} (h0 : 0 ≤ k) (h1 : k < (xs.length : Int)) (h : ∀ x ∈ xs, P x) : So (idx xs k) P := by
  have hl : k.toNat < xs.length := by omega
  exact ⟨_, idx_get h0 hl, h _ (List.getElem_mem hl)⟩
end
end Go.L
namespace Go.L
open Go Go.E
set_option linter.unusedSimpArgs false
set_option linter.unusedVariables false
set_option maxRecDepth 100000
theorem parse_val : ∀ (l : List UInt8) (a : Nat), (∀ b ∈ l, 48 ≤ b.toNat ∧ b.toNat ≤ 57) → val a l ≤ 1000000000000 → Go.Lib.parseUint10 a l = .ok (val a l)
  | [], a, _, _ => rfl
  | b :: l, a, h, hv => by
    have h1 := h b (by simp)
    have h2 : a * 10 + (b.toNat - 48) ≤ val a (b :: l) := val_ge l _
    rw [Go.Lib.parseUint10, if_pos h1, if_neg (by omega), if_neg (by omega)]
    exact parse_val l _ (fun x hx => h x (by simp [hx])) hv
theorem atoi_dec {n : Nat} (h : n ≤ 1000000000000) : Go.Lib.atoiAll (dec n) = .ok (n : Int) := by
  have hd := dec_digit n
  have hv := val_dec n
  have hp := dec_pos n
  cases hl : dec n with
  | nil => rw [hl] at hp; simp at hp
  | cons c r =>
    rw [hl] at hd hv
    have hc := hd c (by simp)
    unfold Go.Lib.atoiAll
    simp only
    rw [if_neg (by omega), Go.Lib.parseMag, if_neg (by simp), parse_val _ _ hd (by omega), hv]
    simp only
    rw [if_neg (by omega), if_neg (by omega), if_neg (by omega)]
def numI (l : List UInt8) : Int := if (atoiR (bs l) (Go.Lib.atoiAll l)).2 then 0 else (atoiR (bs l) (Go.Lib.atoiAll l)).1
theorem i_num {l : List UInt8} (h : l.length ≤ 1048576) : i_number (bs l) = some (numI l) := by
  unfold i_number strconv_Atoi
  rw [if_pos (by rw [bs_size]; omega), Option.bind_some, bs_list]
  unfold numI
  split <;> rfl
theorem numI_dec {n : Nat} (h : n ≤ 1000000000000) : numI (dec n) = (n : Int) := by
  unfold numI
  rw [atoi_dec h]
  rfl
theorem s_num_some {l : List UInt8} (h : l.length ≤ 1048576) : So (s_l17Num (bs l)) fun _ => True := by
  unfold s_l17Num
  refine so_bind (P := fun b2 => b2 = true → 1 ≤ l.length) (so_ite (fun hc => ?_) fun _ => so_some (by simp)) fun b2 hb2 => ?_
  · have hc := of_decide_eq_true hc
    rw [bs_size] at hc
    rw [sidx_bs]
    exact so_bind (so_idx (P := fun _ => True) (by omega) (by omega) fun _ _ => trivial) fun _ _ => so_some fun _ => by omega
  refine so_bind (P := fun s => ∃ q : List UInt8, s = bs q ∧ q.length ≤ 1048576) (so_ite (fun hc => ?_) fun _ => so_some ⟨l, rfl, h⟩) fun s ⟨q, hs, hq⟩ => ?_
  · have := hb2 hc
    rw [show ((1 : Int)) = ((1 : Nat) : Int) from rfl, ssl_from this]
    exact so_bind (so_some (P := fun s => s = bs (l.drop 1)) rfl) fun s hs => so_some ⟨_, hs, by simp; omega⟩
  subst hs
  rw [bs_size, sidx_bs]
  refine so_bind (P := fun _ => True) (so_ite (fun _ => so_some trivial) fun hc => ?_) fun b10 _ => so_ite (fun _ => so_some trivial) fun _ => ?_
  · simp only [Bool.or_eq_true, beq_iff_eq, decide_eq_true_eq, not_or] at hc
    exact so_bind (so_idx (P := fun _ => True) (by omega) (by omega) fun _ _ => trivial) fun _ _ => so_some trivial
  rw [cntF_nat (by omega)]
  refine so_bind (so_some (P := fun k => k = q.length) rfl) fun k hk => ?_
  subst hk
  have hloop : So (countL (s_l17Num_b1 (bs q)) q.length 0 0) fun _ => True := by
    refine count_inv (fun _ _ => True) (fun _ => True) q.length 0 (fun _ _ => trivial) (fun i s _ hi _ => ?_) 0 trivial
    unfold s_l17Num_b1
    rw [sidx_bs, idx_lt (by omega), Option.bind_some]
    split
    · exact ⟨_, rfl, trivial⟩
    · exact ⟨_, rfl, trivial⟩
  refine so_bind hloop fun j _ => ?_
  cases j with
  | out t => exact so_some trivial
  | nx n => exact so_bind (so_ite (P := fun _ => True) (fun _ => so_some trivial) fun _ => so_some trivial) fun _ _ => so_some trivial
noncomputable def numS (l : List UInt8) : Int := ((s_l17Num (bs l)).getD (0, false)).1
theorem s_num {l : List UInt8} (h : l.length ≤ 1048576) : ∃ b, s_l17Num (bs l) = some (numS l, b) := by
  obtain ⟨r, hr, _⟩ := s_num_some h
  refine ⟨r.2, ?_⟩
  unfold numS
  rw [hr]
  rfl
theorem val_lt_take {l : List UInt8} {i : Nat} (hi : i < l.length) : val 0 (l.take (i + 1)) = val 0 (l.take i) * 10 + ((l[i]).toNat - 48) := by
  unfold val
  rw [List.take_add_one, List.getElem?_eq_getElem hi, Option.toList_some, List.foldl_append]
  rfl
theorem val_take_le {l : List UInt8} (i : Nat) : val 0 (l.take i) ≤ val 0 l := by
  have h : val 0 l = val (val 0 (l.take i)) (l.drop i) := by
    unfold val
    rw [← List.foldl_append, List.take_append_drop]
  rw [h]
  exact val_ge _ _
theorem s_num_dec {n : Nat} (h : n ≤ 1000000) : s_l17Num (bs (dec n)) = some ((n : Int), true) := by
  have hd := dec_digit n
  have hv := val_dec n
  have hp := dec_pos n
  have hlen := dec_len 6 n (by omega)
  have hh := dec_head n
  have h0 : (dec n).length ≠ 1 → n ≠ 0 := by
    rintro h1 rfl
    exact h1 (by rw [dec_small (by omega)]; rfl)
  generalize dec n = l at *
  obtain ⟨c, r, rfl⟩ : ∃ c r, l = c :: r := by
    cases l with
    | nil => simp at hp
    | cons c r => exact ⟨c, r, rfl⟩
  have hc := hd c (by simp)
  unfold s_l17Num
  simp only [bs_size, sidx_bs]
  rw [if_pos (by simp only [decide_eq_true_eq]; omega), show idx (c :: r) 0 = some c from rfl, Option.bind_some, Option.bind_some, show ((c.toNat : Int) == 45) = false from by simp only [beq_eq_false_iff_ne]; omega]
  simp only [Bool.false_eq_true, if_false, Option.bind_some, bs_size, sidx_bs, show idx (c :: r) 0 = some c from rfl]
  rw [if_neg (by simp only [Bool.or_eq_true, beq_iff_eq, decide_eq_true_eq, not_or]; omega), Option.bind_some]
  have hb : (((c.toNat : Int) == 48) && ((decide (((c :: r).length : Int) > 1)) || false)) = false := by
    cases hx : ((c.toNat : Int) == 48) with
    | false => rfl
    | true =>
      simp only [beq_iff_eq] at hx
      have e : c = 48 := UInt8.toNat_inj.1 (by show c.toNat = 48; omega)
      simp only [Bool.true_and, Bool.or_false, decide_eq_false_iff_not]
      intro hgt
      exact hh (h0 (by omega)) (by rw [e]; rfl)
  rw [hb]
  simp only [Bool.false_eq_true, if_false]
  rw [cntF_nat (by omega), Option.bind_some]
  have hloop := count_to (b := s_l17Num_b1 (bs (c :: r))) (fun i => ((val 0 ((c :: r).take i) : Nat) : Int)) (c :: r).length 0 (fun i _ hi => by
    have hi : i < (c :: r).length := by omega
    have hdi := hd (c :: r)[i] (List.getElem_mem hi)
    have hle := val_take_le (l := c :: r) (i + 1)
    have hst := val_lt_take hi
    unfold s_l17Num_b1
    rw [sidx_bs, idx_lt hi, Option.bind_some, if_neg (by simp only [Bool.or_eq_true, decide_eq_true_eq, not_or]; omega), wrap_u8 (by omega) (by omega), i64_id (n := (((c :: r)[i]).toNat : Int) - 48) (by omega) (by omega), i64_id (n := _ * 10) (by omega) (by omega), i64_id (by omega) (by omega)]
    congr 2
    omega)
  rw [Nat.zero_add] at hloop
  rw [show ((0 : Int)) = ((val 0 ((c :: r).take 0) : Nat) : Int) from rfl, hloop, Option.bind_some]
  simp only [List.take_length, hv, Option.bind_some]
theorem numS_dec {n : Nat} (h : n ≤ 1000000) : numS (dec n) = (n : Int) := by
  unfold numS
  rw [s_num_dec h]
  rfl
def litT (l : Int) : List UInt8 := if l < 0 then 126 :: 120 :: dec (-l).toNat else 120 :: dec l.toNat
def okL (l : Int) : Prop := l ≠ 0 ∧ -12 ≤ l ∧ l ≤ 12
theorem litT_len {l : Int} (h : okL l) : (litT l).length ≤ 4 := by
  unfold okL at h
  unfold litT
  split
  · have := dec_len 1 (-l).toNat (by omega); simp only [List.length_cons]; omega
  · have := dec_len 1 l.toNat (by omega); simp only [List.length_cons]; omega
theorem i_litText {l : Int} (h : -1000000 ≤ l ∧ l ≤ 1000000) : i_literalText l = some (bs (litT l)) := by
  unfold i_literalText litT
  split
  · rename_i hl
    have hl := of_decide_eq_true hl
    have := dec_len 6 (-l).toNat (by omega)
    rw [i64_id (by omega) (by omega), itoa_of (by omega) (by omega), Option.bind_some, show (⟨#[126, 120]⟩ : ByteArray) = bs [126, 120] from rfl, cat_bs (by simp only [List.length_cons, List.length_nil]; omega), if_pos hl]
    rfl
  · rename_i hl
    have hl : ¬ l < 0 := by simpa using hl
    have := dec_len 6 l.toNat (by omega)
    rw [itoa_of (by omega) (by omega), Option.bind_some, show (⟨#[120]⟩ : ByteArray) = bs [120] from rfl, cat_bs (by simp only [List.length_cons, List.length_nil]; omega), if_neg hl]
    rfl
theorem s_litText {l : Int} (h : -1000000 ≤ l ∧ l ≤ 1000000) {fu : Nat} (hf : 30 ≤ fu) : s_l1Name fu l = some (bs (litT l)) := by
  unfold s_l1Name litT
  split
  · rename_i hl
    have hl := of_decide_eq_true hl
    have := dec_len 6 (-l).toNat (by omega)
    rw [i64_id (by omega) (by omega), s_dec_of (by omega) (by omega) hf, Option.bind_some, show (⟨#[126, 120]⟩ : ByteArray) = bs [126, 120] from rfl, cat_bs (by simp only [List.length_cons, List.length_nil]; omega), if_pos hl]
    rfl
  · rename_i hl
    have hl : ¬ l < 0 := by simpa using hl
    have := dec_len 6 l.toNat (by omega)
    rw [s_dec_of (by omega) (by omega) hf, Option.bind_some, show (⟨#[120]⟩ : ByteArray) = bs [120] from rfl, cat_bs (by simp only [List.length_cons, List.length_nil]; omega), if_neg hl]
    rfl
def termT (t : Term) : List UInt8 := dec t.coef.toNat ++ 32 :: litT t.lit ++ [32]
def conT (c : Con) : List UInt8 := c.terms.flatMap termT ++ [62, 61, 32] ++ dec c.bound.toNat
theorem okT_L {t : Term} (h : okT t = true) : okL t.lit := ⟨(okT_lit h).1, (okT_lit h).2.1, (okT_lit h).2.2.1⟩
theorem termT_len {t : Term} (h : okT t = true) : (termT t).length ≤ 10 := by
  have h1 := okT_lit h
  have h2 := litT_len (okT_L h)
  have h3 := dec_len 3 t.coef.toNat (by omega)
  unfold termT
  simp only [List.length_append, List.length_cons, List.length_nil]
  omega
theorem terms_len : ∀ {ts : List Term}, (∀ t ∈ ts, okT t = true) → (ts.flatMap termT).length ≤ 10 * ts.length
  | [], _ => by simp
  | t :: ts, h => by
    have h1 := termT_len (h t (by simp))
    have h2 := terms_len (ts := ts) fun x hx => h x (by simp [hx])
    rw [List.flatMap_cons, List.length_append, List.length_cons]
    omega
theorem flat_take {α β : Type} (f : α → List β) {xs : List α} {i : Nat} {x : α} (h : xs[i]? = some x) : (xs.take (i + 1)).flatMap f = (xs.take i).flatMap f ++ f x := by
  rw [List.take_add_one, h, Option.toList_some, List.flatMap_append]
  simp
theorem i_text {c : Con} (h : okCon c = true) : i_Constraint_text c = some (bs (conT c)) := by
  obtain ⟨_, h2, h3, h4, h5⟩ := okCon_parts h
  unfold i_Constraint_text
  have hl := range_to (b := i_Constraint_text_b1) (fun i => bs ((c.terms.take i).flatMap termT)) c.terms fun i t ht => by
    have hok := h3 t (List.mem_of_getElem? ht)
    have h1 := okT_lit hok
    have hL := okT_L hok
    have e1 := litT_len hL
    have e2 := dec_len 3 t.coef.toNat (by omega)
    have e3 := terms_len (ts := c.terms.take i) fun x hx => h3 x (List.mem_of_mem_take hx)
    have e4 : (c.terms.take i).length ≤ 12 := by rw [List.length_take]; omega
    unfold i_Constraint_text_b1
    rw [itoa_of (by omega) (by omega), Option.bind_some, show (⟨#[32]⟩ : ByteArray) = bs [32] from rfl, cat_bs (by simp only [List.length_cons, List.length_nil]; omega), Option.bind_some, i_litText (by omega), Option.bind_some,
      cat_bs (by simp only [List.length_append, List.length_cons, List.length_nil]; omega), Option.bind_some, cat_bs (by simp only [List.length_append, List.length_cons, List.length_nil]; omega), Option.bind_some,
      cat_bs (by simp only [List.length_append, List.length_cons, List.length_nil]; omega), Option.bind_some, flat_take termT ht]
    unfold termT
    simp only [List.append_assoc, List.cons_append, List.nil_append]
  have e3 := terms_len h3
  have e5 := dec_len 4 c.bound.toNat (by omega)
  rw [show (⟨#[]⟩ : ByteArray) = bs ((c.terms.take 0).flatMap termT) from rfl, hl, Option.bind_some]
  simp only [List.take_length]
  rw [show (⟨#[62, 61, 32]⟩ : ByteArray) = bs [62, 61, 32] from rfl, cat_bs (by simp only [List.length_cons, List.length_nil]; omega), Option.bind_some, itoa_of h4 (by omega), Option.bind_some,
    cat_bs (by simp only [List.length_append, List.length_cons, List.length_nil]; omega), Option.bind_some]
  rfl
theorem s_text {c : Con} (h : okCon c = true) {fu : Nat} (hf : 30 ≤ fu) : s_l1Text fu c = some (bs (conT c)) := by
  obtain ⟨_, h2, h3, h4, h5⟩ := okCon_parts h
  unfold s_l1Text
  have hl := range_to (b := s_l1Text_b1 fu) (fun i => bs ((c.terms.take i).flatMap termT)) c.terms fun i t ht => by
    have hok := h3 t (List.mem_of_getElem? ht)
    have h1 := okT_lit hok
    have hL := okT_L hok
    have e1 := litT_len hL
    have e2 := dec_len 3 t.coef.toNat (by omega)
    have e3 := terms_len (ts := c.terms.take i) fun x hx => h3 x (List.mem_of_mem_take hx)
    have e4 : (c.terms.take i).length ≤ 12 := by rw [List.length_take]; omega
    unfold s_l1Text_b1
    rw [s_dec_of (by omega) (by omega) hf, Option.bind_some, show (⟨#[32]⟩ : ByteArray) = bs [32] from rfl, cat_bs (by omega), Option.bind_some, cat_bs (by simp only [List.length_append, List.length_cons, List.length_nil]; omega), Option.bind_some, s_litText (by omega) hf, Option.bind_some,
      cat_bs (by simp only [List.length_append, List.length_cons, List.length_nil]; omega), Option.bind_some, cat_bs (by simp only [List.length_append, List.length_cons, List.length_nil]; omega), Option.bind_some, flat_take termT ht]
    unfold termT
    simp only [List.append_assoc, List.cons_append, List.nil_append]
  have e3 := terms_len h3
  have e5 := dec_len 4 c.bound.toNat (by omega)
  rw [show (⟨#[]⟩ : ByteArray) = bs ((c.terms.take 0).flatMap termT) from rfl, hl, Option.bind_some]
  simp only [List.take_length]
  rw [show (⟨#[62, 61, 32]⟩ : ByteArray) = bs [62, 61, 32] from rfl, cat_bs (by simp only [List.length_cons, List.length_nil]; omega), Option.bind_some, s_dec_of h4 (by omega) hf, Option.bind_some,
    cat_bs (by simp only [List.length_append, List.length_cons, List.length_nil]; omega), Option.bind_some]
  rfl
def fmtC (c : Con) : List UInt8 := if okCon c then conT c else []
theorem s_format (c : Con) (hl : c.terms.length ≤ ML) {fu : Nat} (hf : 30 ≤ fu) : s_FormatConstraint fu c = some (bs (fmtC c)) := by
  unfold s_FormatConstraint fmtC
  rw [s_valid c hl, Option.bind_some]
  cases h : okCon c with
  | true => simp [s_text h hf]
  | false => rfl
end Go.L
namespace Go.L
open Go Go.E
set_option linter.unusedSimpArgs false
set_option linter.unusedVariables false
set_option maxRecDepth 100000
theorem i_lit_is (l : Int) : i_isLiteral l = some (l != 0 && (decide (-12 ≤ l) && decide (l ≤ 12))) := by
  unfold i_isLiteral i_within
  by_cases h : l = 0
  · subst h; rfl
  · rw [if_pos (by simpa using h)]
    have : (l != 0) = true := by simpa using h
    rw [this]
    rfl
theorem i_readLit_some {l : List UInt8} (h : l.length ≤ 1048576) : So (i_readLiteral (bs l)) fun _ => True := by
  unfold i_readLiteral strings_CutPrefix strings_TrimPrefix
  rw [Option.bind_some, Option.bind_some]
  simp only [show (⟨#[126]⟩ : ByteArray) = bs [126] from rfl, show (⟨#[120]⟩ : ByteArray) = bs [120] from rfl, bs_list]
  have hp : ∀ a p : List UInt8, (Go.Lib.trimPrefix a p).length ≤ a.length := fun a p => by
    unfold Go.Lib.trimPrefix; split
    · simp
    · exact Nat.le_refl _
  have h1 := hp l [126]
  have h2 := hp (Go.Lib.trimPrefix l [126]) [120]
  rw [i_num (by omega), Option.bind_some]
  refine so_bind (so_ite (P := fun _ => True) (fun _ => so_some trivial) fun _ => so_some trivial) fun k _ => ?_
  rw [i_lit_is, Option.bind_some]
  refine so_bind (P := fun _ => True) (so_ite (fun _ => so_some trivial) fun hc => ?_) fun _ _ => so_ite (fun _ => so_some trivial) fun _ => so_some trivial
  have hk : -12 ≤ k ∧ k ≤ 12 := by
    simp only [Bool.not_eq_true', Bool.not_eq_false, Bool.and_eq_true, decide_eq_true_eq] at hc
    exact hc.2
  rw [i_litText (by omega), Option.bind_some]
  exact so_some trivial
def litI (l : List UInt8) : Int := (i_readLiteral (bs l)).getD 0
theorem i_readLit {l : List UInt8} (h : l.length ≤ 1048576) : i_readLiteral (bs l) = some (litI l) := by
  obtain ⟨r, hr, _⟩ := i_readLit_some h
  unfold litI
  rw [hr]
  rfl
theorem litI_lit {k : Int} (h : okL k) : litI (litT k) = k := by
  have hl : (litT k).length ≤ 1048576 := by have := litT_len h; omega
  obtain ⟨h0, h1, h2⟩ := h
  unfold litI i_readLiteral strings_CutPrefix strings_TrimPrefix
  rw [Option.bind_some, Option.bind_some]
  simp only [show (⟨#[126]⟩ : ByteArray) = bs [126] from rfl, show (⟨#[120]⟩ : ByteArray) = bs [120] from rfl, bs_list]
  have hfin : ∀ (b : Bool) (d : Int), (if b then i64 (-d) else d) = k → ((if b then some (i64 (-d)) else some d) : Option Int) = some k := fun b d hd => by cases b <;> simp_all
  have last : ((i_isLiteral k).bind fun x48 => (if (!x48) then some true else ((i_literalText k).bind fun x55 => some (!(ByteArray.toList x55 == ByteArray.toList (bs (litT k)))))).bind fun b57 => if b57 then (some 0) else (some k)) = some k := by
    rw [i_lit_is, Option.bind_some]
    have e : (k != 0 && (decide (-12 ≤ k) && decide (k ≤ 12))) = true := by simp [h0, h1, h2]
    rw [e]
    simp only [Bool.not_true, Bool.false_eq_true, if_false]
    rw [i_litText (by omega), Option.bind_some, eq_bs, Option.bind_some]
    simp
  by_cases hk : k < 0
  · have e1 : Go.Lib.trimPrefix (litT k) [126] = 120 :: dec (-k).toNat := by unfold litT Go.Lib.trimPrefix Go.Lib.hasPrefix; simp [hk]
    have e2 : Go.Lib.hasPrefix (litT k) [126] = true := by unfold litT Go.Lib.hasPrefix; simp [hk]
    have e3 : Go.Lib.trimPrefix (120 :: dec (-k).toNat) [120] = dec (-k).toNat := by unfold Go.Lib.trimPrefix Go.Lib.hasPrefix; simp
    have := dec_len 1 (-k).toNat (by omega)
    rw [e1, e2, e3, i_num (by omega), numI_dec (by omega), Option.bind_some, hfin true _ (by simp only [if_true]; rw [i64_id (by omega) (by omega)]; omega), Option.bind_some, last]
    rfl
  · have e1 : Go.Lib.trimPrefix (litT k) [126] = 120 :: dec k.toNat := by unfold litT Go.Lib.trimPrefix Go.Lib.hasPrefix; simp [hk]
    have e2 : Go.Lib.hasPrefix (litT k) [126] = false := by unfold litT Go.Lib.hasPrefix; rw [if_neg hk]; rfl
    have e3 : Go.Lib.trimPrefix (120 :: dec k.toNat) [120] = dec k.toNat := by unfold Go.Lib.trimPrefix Go.Lib.hasPrefix; simp
    have := dec_len 1 k.toNat (by omega)
    rw [e1, e2, e3, i_num (by omega), numI_dec (by omega), Option.bind_some, hfin false _ (by simp only [Bool.false_eq_true, if_false]; omega), Option.bind_some, last]
    rfl
theorem s_readLit_some {l : List UInt8} (h : l.length ≤ 1048576) : So (s_l1Literal (bs l)) fun _ => True := by
  unfold s_l1Literal
  refine so_bind (P := fun b2 => b2 = true → 1 ≤ l.length) (so_ite (fun hc => ?_) fun _ => so_some (by simp)) fun b2 hb2 => ?_
  · have hc := of_decide_eq_true hc
    rw [bs_size] at hc
    rw [sidx_bs]
    exact so_bind (so_idx (P := fun _ => True) (by omega) (by omega) fun _ _ => trivial) fun _ _ => so_some fun _ => by omega
  refine so_bind (P := fun s => ∃ q : List UInt8, s.1 = bs q ∧ q.length ≤ 1048576) (so_ite (fun hc => ?_) fun _ => so_some ⟨l, rfl, h⟩) fun s ⟨q, hs, hq⟩ => ?_
  · have := hb2 hc
    rw [show ((1 : Int)) = ((1 : Nat) : Int) from rfl, ssl_from this]
    exact so_bind (so_some (P := fun s => s = bs (l.drop 1)) rfl) fun s hs => so_some ⟨_, hs, by simp <;> omega⟩
  obtain ⟨s1, s2⟩ := s
  obtain rfl : s1 = bs q := hs
  simp only
  refine so_bind (P := fun b => b = false → 1 ≤ q.length) (so_ite (fun _ => so_some (by simp)) fun hc => ?_) fun b hb => so_ite (fun _ => so_some trivial) fun hc => ?_
  · rw [bs_size] at hc
    simp only [decide_eq_true_eq, Int.not_lt] at hc
    rw [sidx_bs]
    exact so_bind (so_idx (P := fun _ => True) (by omega) (by omega) fun _ _ => trivial) fun _ _ => so_some fun _ => by omega
  · have := hb (by simpa using hc)
    rw [show ((1 : Int)) = ((1 : Nat) : Int) from rfl, ssl_from this, Option.bind_some]
    exact so_bind (s_num_some (by simp <;> omega)) fun _ _ => so_ite (fun _ => so_some trivial) fun _ => so_some trivial
noncomputable def litS (l : List UInt8) : Int := (s_l1Literal (bs l)).getD 0
theorem s_readLit {l : List UInt8} (h : l.length ≤ 1048576) : s_l1Literal (bs l) = some (litS l) := by
  obtain ⟨r, hr, _⟩ := s_readLit_some h
  unfold litS
  rw [hr]
  rfl
theorem litS_rest (sign : Int) (k : Nat) (h1 : 1 ≤ k) (h2 : k ≤ 12) (hs : sign = 1 ∨ sign = -1) :
    ((if decide (((bs (120 :: dec k)).size : Int) < 2) then some true else ((sidx (bs (120 :: dec k)) 0).bind fun x10 => some ((x10.toNat : Int) != 120))).bind fun b11 => if b11 then (some 0) else ((ssl (bs (120 :: dec k)) 1 ((bs (120 :: dec k)).size : Int)).bind fun x15 => (s_l17Num x15).bind fun x21 => if (((!x21.2) || (decide (x21.1 < 1))) || (decide (x21.1 > 12))) then (some 0) else (some (i64 (sign * x21.1))))) = some (sign * (k : Int)) := by
  have := dec_pos k
  rw [bs_size, if_neg (by simp only [decide_eq_true_eq, List.length_cons]; omega), sidx_bs, show idx (120 :: dec k) 0 = some (120 : UInt8) from rfl, Option.bind_some, Option.bind_some]
  simp only [show (((120 : UInt8).toNat : Int) != 120) = false from rfl, Bool.false_eq_true, if_false]
  rw [← bs_size (120 :: dec k), show ((1 : Int)) = ((1 : Nat) : Int) from rfl, ssl_from (by simp), Option.bind_some]
  simp only [List.drop_succ_cons, List.drop_zero]
  rw [s_num_dec (by omega), Option.bind_some]
  simp only [Bool.not_true, Bool.false_or]
  rw [if_neg (by simp only [Bool.or_eq_true, decide_eq_true_eq, not_or]; omega)]
  rcases hs with rfl | rfl
  · rw [i64_id (by omega) (by omega)]
  · rw [i64_id (by omega) (by omega)]
theorem litS_lit {k : Int} (h : okL k) : litS (litT k) = k := by
  obtain ⟨h0, h1, h2⟩ := h
  unfold litS s_l1Literal
  by_cases hk : k < 0
  · have e : litT k = 126 :: 120 :: dec (-k).toNat := by unfold litT; rw [if_pos hk]
    rw [e]
    rw [if_pos (by rw [bs_size]; simp only [decide_eq_true_eq, List.length_cons]; omega), sidx_bs, show idx (126 :: 120 :: dec (-k).toNat) 0 = some (126 : UInt8) from rfl, Option.bind_some, Option.bind_some]
    simp only [show (((126 : UInt8).toNat : Int) == 126) = true from rfl, if_true]
    rw [show ((1 : Int)) = ((1 : Nat) : Int) from rfl, ssl_from (by simp), Option.bind_some, Option.bind_some]
    simp only [List.drop_succ_cons, List.drop_zero]
    rw [show (((1 : Nat) : Int)) = (1 : Int) from rfl]
    refine (congrArg (fun o : Option Int => o.getD 0) (litS_rest (-1) (-k).toNat (by omega) (by omega) (.inr rfl))).trans ?_
    show (-1) * (((-k).toNat : Nat) : Int) = k
    omega
  · have e : litT k = 120 :: dec k.toNat := by unfold litT; rw [if_neg hk]
    rw [e]
    rw [if_pos (by rw [bs_size]; simp only [decide_eq_true_eq, List.length_cons]; omega), sidx_bs, show idx (120 :: dec k.toNat) 0 = some (120 : UInt8) from rfl, Option.bind_some, Option.bind_some]
    simp only [show (((120 : UInt8).toNat : Int) == 126) = false from rfl, Bool.false_eq_true, if_false, Option.bind_some]
    refine (congrArg (fun o : Option Int => o.getD 0) (litS_rest 1 k.toNat (by omega) (by omega) (.inl rfl))).trans ?_
    show 1 * ((k.toNat : Nat) : Int) = k
    omega
theorem dec_no32 (n : Nat) : (32 : UInt8) ∉ dec n := fun h => by have := (dec_digit n 32 h).1; simp at this
theorem litT_no32 (k : Int) : (32 : UInt8) ∉ litT k := by
  unfold litT
  split
  · intro h
    rcases List.mem_cons.1 h with h | h
    · cases h
    · rcases List.mem_cons.1 h with h | h
      · cases h
      · exact dec_no32 _ h
  · intro h
    rcases List.mem_cons.1 h with h | h
    · cases h
    · exact dec_no32 _ h
theorem split_terms (r : List UInt8) : ∀ ts : List Term, splitC 32 (ts.flatMap termT ++ r) = ts.flatMap (fun t => [dec t.coef.toNat, litT t.lit]) ++ splitC 32 r
  | [] => rfl
  | t :: ts => by
    have e : termT t ++ ts.flatMap termT ++ r = dec t.coef.toNat ++ 32 :: (litT t.lit ++ 32 :: (ts.flatMap termT ++ r)) := by
      rw [show termT t = dec t.coef.toNat ++ 32 :: litT t.lit ++ [32] from rfl]
      simp only [List.append_assoc, List.cons_append, List.nil_append]
    rw [List.flatMap_cons, List.flatMap_cons, e, splitC_cut _ (dec_no32 _), splitC_cut _ (litT_no32 _), split_terms r ts]
    rfl
theorem split_con (c : Con) : splitC 32 (conT c) = c.terms.flatMap (fun t => [dec t.coef.toNat, litT t.lit]) ++ [[62, 61], dec c.bound.toNat] := by
  unfold conT
  rw [List.append_assoc, split_terms]
  congr 1
  show splitC 32 ([62, 61] ++ 32 :: dec c.bound.toNat) = _
  rw [splitC_cut _ (by decide), splitC_none (dec_no32 _)]
theorem pairs_len (ts : List Term) (f : Term → List UInt8) (g : Term → List UInt8) : (ts.flatMap (fun t => [f t, g t])).length = 2 * ts.length := by
  induction ts with
  | nil => rfl
  | cons t ts ih => rw [List.flatMap_cons, List.length_append, ih]; simp; omega
theorem pairs_get (f : Term → List UInt8) (g : Term → List UInt8) (r : List (List UInt8)) : ∀ (ts : List Term) (i : Nat) (t : Term), ts[i]? = some t →
    (ts.flatMap (fun t => [f t, g t]) ++ r)[2 * i]? = some (f t) ∧ (ts.flatMap (fun t => [f t, g t]) ++ r)[2 * i + 1]? = some (g t)
  | [], i, t, h => by simp at h
  | t0 :: ts, 0, t, h => by simp at h; subst h; simp
  | t0 :: ts, i + 1, t, h => by
    have ih := pairs_get f g r ts i t (by simpa using h)
    rw [List.flatMap_cons]
    show ([f t0, g t0] ++ _ ++ r)[2 * (i + 1)]? = _ ∧ ([f t0, g t0] ++ _ ++ r)[2 * (i + 1) + 1]? = _
    rw [show 2 * (i + 1) + 1 = (2 * i + 1) + 1 + 1 by omega, show 2 * (i + 1) = (2 * i) + 1 + 1 by omega]
    simpa using ih
def termsOf (num lit : List UInt8 → Int) (ws : List (List UInt8)) (k : Nat) : List Term := (List.range k).map fun i => ⟨num (ws.getD (2 * i) []), lit (ws.getD (2 * i + 1) [])⟩
theorem termsOf_next (num lit : List UInt8 → Int) (ws : List (List UInt8)) (k : Nat) : termsOf num lit ws (k + 1) = termsOf num lit ws k ++ [⟨num (ws.getD (2 * k) []), lit (ws.getD (2 * k + 1) [])⟩] := by
  unfold termsOf
  rw [List.range_succ, List.map_append]
  rfl
theorem termsOf_len (num lit : List UInt8 → Int) (ws : List (List UInt8)) (k : Nat) : (termsOf num lit ws k).length = k := by simp [termsOf]
theorem idx_words {ws : List (List UInt8)} {i : Nat} (h : i < ws.length) : idx (ws.map bs) (i : Int) = some (bs (ws.getD i [])) := by
  rw [idx_nat, List.getElem?_map, List.getElem?_eq_getElem h]
  simp [List.getD, List.getElem?_eq_getElem h]
theorem getD_len {ws : List (List UInt8)} {l : List UInt8} (hw : ∀ w ∈ ws, w.length ≤ l.length) (i : Nat) : (ws.getD i []).length ≤ l.length := by
  unfold List.getD
  cases h : ws[i]? with
  | none => simp
  | some w => exact hw w (List.mem_of_getElem? h)
def conOf (num lit : List UInt8 → Int) (ws : List (List UInt8)) : Con := ⟨termsOf num lit ws ((ws.length - 2) / 2), num (ws.getD (ws.length - 1) [])⟩
theorem conOf_con {num lit : List UInt8 → Int} (hn : ∀ n : Nat, n ≤ 1000000 → num (dec n) = n) (hl : ∀ k, okL k → lit (litT k) = k) {c : Con} (h : okCon c = true) :
    (splitC 32 (conT c)).length = 2 * c.terms.length + 2 ∧ conOf num lit (splitC 32 (conT c)) = c := by
  obtain ⟨_, h2, h3, h4, h5⟩ := okCon_parts h
  have hlen : (splitC 32 (conT c)).length = 2 * c.terms.length + 2 := by rw [split_con, List.length_append, pairs_len]; rfl
  refine ⟨hlen, ?_⟩
  unfold conOf
  rw [hlen, show (2 * c.terms.length + 2 - 2) / 2 = c.terms.length by omega]
  have e1 : num ((splitC 32 (conT c)).getD (2 * c.terms.length + 2 - 1) []) = c.bound := by
    rw [split_con]
    unfold List.getD
    rw [List.getElem?_append_right (by rw [pairs_len]; omega), pairs_len, show 2 * c.terms.length + 2 - 1 - 2 * c.terms.length = 1 by omega]
    show num (dec c.bound.toNat) = _
    rw [hn _ (by omega)]; omega
  rw [e1]
  have e2 : termsOf num lit (splitC 32 (conT c)) c.terms.length = c.terms := by
    apply List.ext_getElem?
    intro i
    unfold termsOf
    rw [List.getElem?_map]
    cases ht : c.terms[i]? with
    | none =>
      rw [List.getElem?_eq_none_iff] at ht
      rw [List.getElem?_eq_none (by simpa using ht)]
      rfl
    | some t =>
      have hi := (List.getElem?_eq_some_iff.1 ht).1
      have hok := h3 t (List.mem_of_getElem? ht)
      have h1 := okT_lit hok
      obtain ⟨g1, g2⟩ := pairs_get (fun t => dec t.coef.toNat) (fun t => litT t.lit) [[62, 61], dec c.bound.toNat] c.terms i t ht
      rw [List.getElem?_range hi, Option.map_some, split_con]
      unfold List.getD
      rw [g1, g2]
      show some (Term.mk (num (dec t.coef.toNat)) (lit (litT t.lit))) = _
      rw [hn _ (by omega), hl _ (okT_L hok)]
      congr 1
      cases t
      simp only at h1
      simp only [Term.mk.injEq, and_true]
      omega
  rw [e2]
theorem numI_n (n : Nat) (h : n ≤ 1000000) : numI (dec n) = n := numI_dec (by omega)
theorem numS_n (n : Nat) (h : n ≤ 1000000) : numS (dec n) = n := numS_dec h
theorem con_inj {c d : Con} (hc : okCon c = true) (hd : okCon d = true) (h : conT c = conT d) : c = d := by
  have h1 := (conOf_con numI_n (fun k => litI_lit) hc).2
  rw [h, (conOf_con numI_n (fun k => litI_lit) hd).2] at h1
  exact h1.symm
open Classical in
noncomputable def parseC (l : List UInt8) : Con × Bool := if h : ∃ c, okCon c = true ∧ l = conT c then (Classical.choose h, true) else (⟨[], 0⟩, false)
theorem parseC_con {c : Con} (h : okCon c = true) : parseC (conT c) = (c, true) := by
  unfold parseC
  have hx : ∃ d, okCon d = true ∧ conT c = conT d := ⟨c, h, rfl⟩
  rw [dif_pos hx]
  have hs := Classical.choose_spec hx
  rw [con_inj hs.1 h hs.2.symm]
theorem parseC_no {l : List UInt8} (h : ∀ c, okCon c = true → l ≠ conT c) : parseC l = (⟨[], 0⟩, false) := by
  unfold parseC
  rw [dif_neg (fun ⟨c, hc, e⟩ => h c hc e)]
theorem parseC_len (l : List UInt8) : (parseC l).1.terms.length ≤ 12 := by
  by_cases hx : ∃ c, okCon c = true ∧ l = conT c
  · obtain ⟨c, hc, rfl⟩ := hx
    rw [parseC_con hc]
    exact (okCon_parts hc).2.1
  · rw [parseC_no (fun c hc e => hx ⟨c, hc, e⟩)]
    simp
theorem parse_end {l : List UInt8} (c : Con) (b : Bool) (hb : b = true ↔ okCon c = true ∧ l = conT c) (hno : ∀ d, okCon d = true → l = conT d → c = d) :
    parseC l = if b then (c, true) else (⟨[], 0⟩, false) := by
  cases hbb : b with
  | true =>
    obtain ⟨h1, h2⟩ := hb.1 hbb
    rw [h2, parseC_con h1]
    rfl
  | false =>
    rw [parseC_no fun d hd e => ?_]
    · rfl
    · have := hno d hd e
      subst this
      rw [hb.2 ⟨hd, e⟩] at hbb
      cases hbb
theorem i_parseC {l : List UInt8} (h : l.length ≤ 1048576) {fu : Nat} (hf : 100 ≤ fu) : i_ParseConstraint fu (bs l) = some (parseC l) := by
  have hw : ∀ w ∈ splitC 32 l, w.length ≤ l.length := fun w => splitC_mem
  have hwl := splitC_len 32 l
  have hne : (splitC 32 l).length ≠ 0 := by rw [Ne, List.length_eq_zero_iff]; exact splitC_ne 32 l
  unfold i_ParseConstraint
  rw [show (⟨#[32]⟩ : ByteArray) = bs [32] from rfl, strings_split (by omega), Option.bind_some]
  have hcon : ∀ d, okCon d = true → l = conT d → (splitC 32 l).length = 2 * d.terms.length + 2 ∧ conOf numI litI (splitC 32 l) = d := fun d hd e => by rw [e]; exact conOf_con numI_n (fun k => litI_lit) hd
  generalize hws : splitC 32 l = ws at *
  simp only [List.length_map]
  rw [i64_id (n := (ws.length : Int) - 2) (by omega) (by omega)]
  by_cases hc : ((decide ((ws.length : Int) - 2 < 0) || decide ((ws.length : Int) - 2 > 24)) || (Int.tmod ((ws.length : Int) - 2) 2 != 0)) = true
  · rw [if_pos hc]
    refine congrArg some (parseC_no fun d hd e => ?_).symm
    obtain ⟨h1, _⟩ := hcon d hd e
    have h2 := (okCon_parts hd).2.1
    rw [h1] at hc
    simp only [Bool.or_eq_true, decide_eq_true_eq, bne_iff_ne, ne_eq] at hc
    rcases hc with (hc | hc) | hc
    · omega
    · omega
    · apply hc
      rw [show (((2 * d.terms.length + 2 : Nat) : Int) - 2) = 2 * (d.terms.length : Int) by omega]
      exact Int.tmod_eq_zero_of_dvd ⟨_, rfl⟩
  · rw [if_neg hc]
    simp only [Bool.or_eq_true, decide_eq_true_eq, bne_iff_ne, ne_eq, not_or, Decidable.not_not, Int.not_lt] at hc
    obtain ⟨⟨c1, c2⟩, c3⟩ := hc
    obtain ⟨K, hK⟩ : ∃ K : Nat, ws.length = 2 * K + 2 := by
      obtain ⟨q, hq⟩ := Int.dvd_of_tmod_eq_zero c3
      exact ⟨q.toNat, by omega⟩
    have e0 : i64 ((ws.length : Int) - 2 + 1) = ((ws.length - 1 : Nat) : Int) := by rw [i64_id (by omega) (by omega)]; omega
    rw [e0, idx_words (by omega), Option.bind_some, i_num (by have := getD_len hw (ws.length - 1); omega), Option.bind_some]
    obtain ⟨j, hj, rfl⟩ := while_inv (b := i_ParseConstraint_b1 (ws.map bs)) (fun n s => ∃ k : Nat, s = (((2 * k : Nat) : Int), termsOf numI litI ws k) ∧ k ≤ K ∧ n = K - k) (fun j => j = .nx (((2 * K : Nat) : Int), termsOf numI litI ws K)) (by
      rintro n s ⟨k, rfl, hk, rfl⟩
      unfold i_ParseConstraint_b1
      simp only [List.length_map]
      rw [i64_id (n := (ws.length : Int) - 2) (by omega) (by omega)]
      by_cases hkK : k = K
      · rw [if_neg (by simp only [decide_eq_true_eq]; omega)]
        exact ⟨_, rfl, by rw [hkK]⟩
      · rw [if_pos (by simp only [decide_eq_true_eq]; omega), idx_words (by omega), Option.bind_some, i_num (by have := getD_len hw (2 * k); omega), Option.bind_some, show i64 (((2 * k : Nat) : Int) + 1) = ((2 * k + 1 : Nat) : Int) from by rw [i64_id (by omega) (by omega)]; omega,
          idx_words (by omega), Option.bind_some, i_readLit (by have := getD_len hw (2 * k + 1); omega), Option.bind_some, app_le (by rw [termsOf_len]; simp; omega), Option.bind_some]
        refine ⟨_, rfl, K - (k + 1), by omega, k + 1, ?_, by omega, rfl⟩
        rw [termsOf_next, i64_id (by omega) (by omega)]
        congr 1) fu K ((0 : Int), ([] : List Term)) ⟨0, rfl, by omega, rfl⟩ (by omega)
    rw [hj, Option.bind_some]
    simp only
    have hcc : (⟨termsOf numI litI ws K, numI (ws.getD (ws.length - 1) [])⟩ : Con) = conOf numI litI ws := by unfold conOf; rw [show (ws.length - 2) / 2 = K by omega]
    rw [hcc, i_valid, Option.bind_some]
    generalize hd : conOf numI litI ws = d at *
    have hfin := parse_end d (okCon d && (conT d == l)) (by rw [Bool.and_eq_true, beq_iff_eq]; exact and_congr Iff.rfl eq_comm) fun e he hle => (hcon e he hle).2
    rw [hfin]
    cases hok : okCon d with
    | false => rfl
    | true =>
      simp only [Bool.not_true, Bool.false_eq_true, if_false, Bool.true_and]
      rw [i_text hok, Option.bind_some, eq_bs, Option.bind_some]
      cases (conT d == l) <;> rfl
theorem s_parseC {l : List UInt8} (h : l.length ≤ 1048576) {fu : Nat} (hf : 100 ≤ fu) : s_ParseConstraint fu (bs l) = some (parseC l) := by
  have hw : ∀ w ∈ splitC 32 l, w.length ≤ l.length := fun w => splitC_mem
  have hwl := splitC_len 32 l
  have hne : (splitC 32 l).length ≠ 0 := by rw [Ne, List.length_eq_zero_iff]; exact splitC_ne 32 l
  unfold s_ParseConstraint
  rw [show ((32 : Int)) = ((32 : Nat) : Int) from rfl, s_cut (by omega) h, show UInt8.ofNat 32 = 32 from rfl, Option.bind_some]
  have hcon : ∀ d, okCon d = true → l = conT d → (splitC 32 l).length = 2 * d.terms.length + 2 ∧ conOf numS litS (splitC 32 l) = d := fun d hd e => by rw [e]; exact conOf_con numS_n (fun k => litS_lit) hd
  have hgt : ∀ d, okCon d = true → l = conT d → (splitC 32 l).getD ((splitC 32 l).length - 2) [] = [62, 61] := fun d hd e => by
    obtain ⟨h1, _⟩ := hcon d hd e
    rw [h1, e, split_con]
    unfold List.getD
    rw [List.getElem?_append_right (by rw [pairs_len]; omega), pairs_len, show 2 * d.terms.length + 2 - 2 - 2 * d.terms.length = 0 by omega]
    rfl
  have hl0 : ∀ d, okCon d = true → conT d ≠ [] := fun d _ e => by unfold conT at e; simp at e
  generalize hws : splitC 32 l = ws at *
  simp only [List.length_map]
  have hno : ∀ (P : Prop), (∀ d, okCon d = true → l = conT d → False) → parseC l = (⟨[], 0⟩, false) := fun _ hx => parseC_no fun d hd e => hx d hd e
  by_cases hc : ((decide ((ws.length : Int) < 2) || (Int.tmod (ws.length : Int) 2 != 0)) || decide ((ws.length : Int) > 26)) = true
  · rw [if_pos hc, Option.bind_some]
    simp only [if_true]
    refine congrArg some (parseC_no fun d hd e => ?_).symm
    obtain ⟨h1, _⟩ := hcon d hd e
    have h2 := (okCon_parts hd).2.1
    rw [h1] at hc
    simp only [Bool.or_eq_true, decide_eq_true_eq, bne_iff_ne, ne_eq] at hc
    rcases hc with (hc | hc) | hc
    · omega
    · apply hc
      rw [show ((2 * d.terms.length + 2 : Nat) : Int) = 2 * ((d.terms.length + 1 : Nat) : Int) by omega]
      exact Int.tmod_eq_zero_of_dvd ⟨_, rfl⟩
    · omega
  · rw [if_neg hc]
    simp only [Bool.or_eq_true, decide_eq_true_eq, bne_iff_ne, ne_eq, not_or, Decidable.not_not, Int.not_lt] at hc
    obtain ⟨⟨c1, c3⟩, c2⟩ := hc
    obtain ⟨K, hK⟩ : ∃ K : Nat, ws.length = 2 * K + 2 := by
      obtain ⟨q, hq⟩ := Int.dvd_of_tmod_eq_zero c3
      exact ⟨q.toNat - 1, by omega⟩
    rw [show i64 ((ws.length : Int) - 2) = ((ws.length - 2 : Nat) : Int) from by rw [i64_id (by omega) (by omega)]; omega, idx_words (by omega), Option.bind_some, show (⟨#[62, 61]⟩ : ByteArray) = bs [62, 61] from rfl, eq_bs, Option.bind_some]
    by_cases hg : ws.getD (ws.length - 2) [] = [62, 61]
    · rw [hg]
      simp only [beq_self_eq_true, Bool.not_true, Bool.false_eq_true, if_false]
      obtain ⟨j, hj, rfl⟩ := while_inv (b := s_ParseConstraint_b1 (ws.map bs)) (fun n s => ∃ k : Nat, s = (((2 * k : Nat) : Int), termsOf numS litS ws k) ∧ k ≤ K ∧ n = K - k) (fun j => j = .nx (((2 * K : Nat) : Int), termsOf numS litS ws K)) (by
        rintro n s ⟨k, rfl, hk, rfl⟩
        unfold s_ParseConstraint_b1
        simp only [List.length_map]
        rw [i64_id (n := ((2 * k : Nat) : Int) + 2) (by omega) (by omega)]
        by_cases hkK : k = K
        · rw [if_neg (by simp only [decide_eq_true_eq]; omega)]
          exact ⟨_, rfl, by rw [hkK]⟩
        · obtain ⟨b, hb⟩ := s_num (l := ws.getD (2 * k) []) (by have := getD_len hw (2 * k); omega)
          rw [if_pos (by simp only [decide_eq_true_eq]; omega), idx_words (by omega), Option.bind_some, hb, Option.bind_some, show i64 (((2 * k : Nat) : Int) + 1) = ((2 * k + 1 : Nat) : Int) from by rw [i64_id (by omega) (by omega)]; omega,
            idx_words (by omega), Option.bind_some, s_readLit (by have := getD_len hw (2 * k + 1); omega), Option.bind_some, app_le (by rw [termsOf_len]; simp; omega), Option.bind_some]
          refine ⟨_, rfl, K - (k + 1), by omega, k + 1, ?_, by omega, rfl⟩
          rw [termsOf_next]
          congr 1) fu K ((0 : Int), ([] : List Term)) ⟨0, rfl, by omega, rfl⟩ (by omega)
      rw [hj, Option.bind_some]
      simp only
      obtain ⟨b, hb⟩ := s_num (l := ws.getD (ws.length - 1) []) (by have := getD_len hw (ws.length - 1); omega)
      rw [show i64 ((ws.length : Int) - 1) = ((ws.length - 1 : Nat) : Int) from by rw [i64_id (by omega) (by omega)]; omega, idx_words (by omega), Option.bind_some, hb, Option.bind_some]
      have hcc : (⟨termsOf numS litS ws K, numS (ws.getD (ws.length - 1) [])⟩ : Con) = conOf numS litS ws := by unfold conOf; rw [show (ws.length - 2) / 2 = K by omega]
      rw [hcc, s_format _ (by unfold conOf ML; rw [termsOf_len]; omega) (by omega), Option.bind_some, eq_bs]
      have hln : l ≠ [] := by
        rintro rfl
        rw [← hws] at hK
        simp [splitC] at hK <;> omega
      generalize hd : conOf numS litS ws = d at *
      have hfin := parse_end d (fmtC d == l) (by
        rw [beq_iff_eq]
        unfold fmtC
        constructor
        · intro e
          split at e
          · exact ⟨‹_›, e.symm⟩
          · exact absurd e.symm hln
        · rintro ⟨e1, e2⟩
          rw [if_pos e1, e2]) fun e he hle => (hcon e he hle).2
      rw [hfin]
      cases (fmtC d == l) <;> rfl
    · have hb : (ws.getD (ws.length - 2) [] == [62, 61]) = false := by simpa using hg
      rw [hb]
      simp only [Bool.not_false, if_true]
      exact congrArg some (parseC_no fun d hd e => hg (hgt d hd e)).symm
end Go.L
namespace Go.L
open Go Go.E
set_option linter.unusedVariables false
set_option linter.unusedSimpArgs false
set_option maxRecDepth 100000
end Go.L
namespace Go.L
open Go Go.E
set_option linter.unusedVariables false
set_option linter.unusedSimpArgs false
set_option maxRecDepth 100000
end Go.L
namespace Go.L
open Go Go.E
set_option linter.unusedVariables false
theorem same_list {α : Type} {one : α → α → Option Bool} {xs : List α} {b : Nat → α → Unit → Option (Lo Unit Bool)} {all : Option Bool} {k : Jn Unit Bool → Option Bool}
    (e : all = if ((xs.length : Int) != (xs.length : Int)) then (some false) else ((rangeL b xs 0 ()).bind k)) (hk : k (.nx ()) = some true)
    (hb : ∀ i x, xs[i]? = some x → b i x () = (one x x).bind fun y => if (!y) then some (.out false) else some (.cont ())) (hone : ∀ x ∈ xs, one x x = some true) : all = some true := by
  rw [e, if_neg (by simp)]
  have h := range_all (fun _ => true) false (b := b) xs (fun i x hx => by rw [hb i x hx, hone x (List.mem_of_getElem? hx)]; rfl)
  rw [h]
  simp [hk]
theorem idx_self {α : Type} {xs : List α} {i : Nat} {x : α} (h : xs[i]? = some x) : idx xs (i : Int) = some x := by rw [idx_nat, h]
end Go.L
namespace Go.L
open Go Go.E
set_option linter.unusedVariables false
set_option linter.unusedSimpArgs false
set_option maxRecDepth 100000
def FV : Nat := 2000000
def chain {α : Type} (P : α → Int → Int → Prop) : List α → Int → Int → Prop
  | [], k, k' => k = k'
  | y :: ys, k, k' => ∃ k1, P y k k1 ∧ chain P ys k1 k'
theorem chain_range {α τ : Type} {P : α → Int → Int → Prop} {b : Nat → α → Int → Option (Lo Int τ)} (hb : ∀ i y k k', P y k k' → b i y k = some (.cont k')) :
    ∀ (ys : List α) (i : Nat) (k k' : Int), chain P ys k k' → rangeL b ys i k = some (.nx k')
  | [], i, k, k', h => by obtain rfl := h; rfl
  | y :: ys, i, k, k', ⟨k1, h1, h2⟩ => by show (b i y k).bind _ = _; rw [hb i y k k1 h1]; exact chain_range hb ys (i + 1) k1 k' h2
theorem drop_set_cons {α : Type} {a : List α} {i : Nat} {y : α} (h : a[i]? = some y) : a.drop i = y :: a.drop (i + 1) := by
  obtain ⟨hi, rfl⟩ := List.getElem?_eq_some_iff.1 h
  rw [List.drop_eq_getElem_cons hi]
theorem mark_loop {α τ : Type} {b : (List α × Int × Int) → Option (Lo (List α × Int × Int) τ)} (P : α → Int → Int → Prop) (c K : Int) (hc : 0 ≤ c) (xs : List α) (hlen : xs.length ≤ 1048576)
    (h : ∀ (a : List α) (k : Int) (i : Nat) (x : α), a[i]? = some x → x ∈ xs → 0 ≤ k → k ≤ K → ∃ y k', b (a, k, i) = some (.cont (a.set i y, k', i64 ((i : Int) + 1))) ∧ P y k k' ∧ k ≤ k' ∧ k' ≤ k + c)
    (hb : ∀ (a : List α) (k : Int) (i : Nat), a.length ≤ i → b (a, k, i) = some (.brk (a, k, i))) :
    ∀ (n : Nat) (i : Nat) (a : List α) (k : Int) (fu : Nat), xs.length = i + n → a.length = xs.length → (∀ j, i ≤ j → a[j]? = xs[j]?) → n < fu → 0 ≤ k → k + n * c ≤ K →
      ∃ a' k' j, whileL b fu (a, k, i) = some (.nx (a', k', j)) ∧ a'.length = xs.length ∧ (∀ j, j < i → a'[j]? = a[j]?) ∧ chain P (a'.drop i) k k' ∧ k ≤ k' ∧ k' ≤ k + n * c
  | 0, i, a, k, fu, hn, ha, hj, hf, h0, hK => by
    obtain ⟨f, rfl⟩ : ∃ f, fu = f + 1 := ⟨fu - 1, by omega⟩
    refine ⟨a, k, i, ?_, ha, fun _ _ => rfl, ?_, by omega, by simp⟩
    · show (b (a, k, (i : Int))).bind _ = _
      rw [hb a k i (by omega)]; rfl
    · rw [List.drop_of_length_le (by omega)]; rfl
  | n + 1, i, a, k, fu, hn, ha, hj, hf, h0, hK => by
    obtain ⟨f, rfl⟩ : ∃ f, fu = f + 1 := ⟨fu - 1, by omega⟩
    have hi : i < a.length := by omega
    have hx : a[i]? = some a[i] := List.getElem?_eq_getElem hi
    have hm : a[i] ∈ xs := by
      have := hj i (Nat.le_refl _)
      rw [hx] at this
      exact List.mem_of_getElem? this.symm
    have hnc : ((n + 1 : Nat) : Int) * c = n * c + c := by rw [Int.natCast_add, Int.add_mul]; simp
    have hpos : 0 ≤ (n : Int) * c := Int.mul_nonneg (by omega) hc
    obtain ⟨y, k1, e, hP, h1, h2⟩ := h a k i a[i] hx hm h0 (by omega)
    obtain ⟨a', k', j', e', hl', hs', hch, h3, h4⟩ := mark_loop P c K hc xs hlen h hb n (i + 1) (a.set i y) k1 f (by omega) (by rw [List.length_set]; exact ha)
      (fun j hij => by rw [List.getElem?_set_ne (by omega)]; exact hj j (by omega)) (by omega) (by omega) (by omega)
    refine ⟨a', k', j', ?_, hl', ?_, ?_, by omega, by omega⟩
    · show (b (a, k, (i : Int))).bind _ = _
      rw [e]
      show whileL b f (a.set i y, k1, i64 ((i : Int) + 1)) = _
      rw [i64_id (by omega) (by omega)]
      exact e'
    · intro j hji
      rw [hs' j (by omega), List.getElem?_set_ne (by omega)]
    · have hy : a'[i]? = some y := by rw [hs' i (by omega), List.getElem?_set_self (by omega)]
      rw [drop_set_cons hy]
      exact ⟨k1, hP, hch⟩
theorem mark_all {α τ : Type} {b : (List α × Int × Int) → Option (Lo (List α × Int × Int) τ)} (P : α → Int → Int → Prop) (c K : Int) (hc : 0 ≤ c) (xs : List α) (hlen : xs.length ≤ 1048576)
    (h : ∀ (a : List α) (k : Int) (i : Nat) (x : α), a[i]? = some x → x ∈ xs → 0 ≤ k → k ≤ K → ∃ y k', b (a, k, i) = some (.cont (a.set i y, k', i64 ((i : Int) + 1))) ∧ P y k k' ∧ k ≤ k' ∧ k' ≤ k + c)
    (hb : ∀ (a : List α) (k : Int) (i : Nat), a.length ≤ i → b (a, k, i) = some (.brk (a, k, i))) (k : Int) (fu : Nat) (hf : FV ≤ fu) (h0 : 0 ≤ k) (hK : k + 1048576 * c ≤ K) :
    ∃ a' k' j, whileL b fu (xs, k, 0) = some (.nx (a', k', j)) ∧ a'.length = xs.length ∧ chain P a' k k' ∧ k ≤ k' ∧ k' ≤ k + 1048576 * c := by
  have hm : (xs.length : Int) * c ≤ 1048576 * c := Int.mul_le_mul_of_nonneg_right (by omega) hc
  obtain ⟨a', k', j, e, hl, _, hch, h1, h2⟩ := mark_loop P c K hc xs hlen h hb xs.length 0 xs k fu (by omega) rfl (fun _ _ => rfl) (by unfold FV at hf; omega) h0 (by omega)
  exact ⟨a', k', j, e, hl, hch, h1, by omega⟩
theorem mk_lt {α : Type} {a : List α} {i : Nat} {x : α} (h : a[i]? = some x) : decide ((i : Int) < (a.length : Int)) = true := by
  have := (List.getElem?_eq_some_iff.1 h).1
  simpa using this
theorem mk_ge {α : Type} {a : List α} {i : Nat} (h : a.length ≤ i) : decide ((i : Int) < (a.length : Int)) = false := by simpa using h
theorem idx_set_self {α : Type} {a : List α} {i : Nat} {x y : α} (hx : a[i]? = some x) : idx (a.set i y) (i : Int) = some y := by
  rw [idx_nat, List.getElem?_set_self (List.getElem?_eq_some_iff.1 hx).1]
end Go.L
namespace Go.L
open Go Go.E
set_option linter.unusedVariables false
set_option linter.unusedSimpArgs false
set_option maxRecDepth 100000
def smC (c : Con) : Prop := c.terms.length ≤ 1048576
def smCs (xs : List Con) : Prop := xs.length ≤ 1048576 ∧ ∀ c ∈ xs, smC c
theorem eqTerm (t : Term) : l_eqTerm t t = some true := by
  unfold l_eqTerm
  simp
theorem eqTerms (a : List Term) : l_eqTermS a a = some true :=
  same_list (one := l_eqTerm) rfl rfl (fun i x hx => by show (idx a (i : Int)).bind _ = _; rw [idx_self hx]; rfl) fun x _ => eqTerm x
theorem eqCon (a : Con) : l_eqConstraint a a = some true := by
  unfold l_eqConstraint
  simp [eqTerms]
theorem eqCons (a : List Con) : l_eqConstraintS a a = some true :=
  same_list (one := l_eqConstraint) rfl rfl (fun i x hx => by show (idx a (i : Int)).bind _ = _; rw [idx_self hx]; rfl) fun x _ => eqCon x
theorem mkTerms (xs : List Term) (hl : xs.length ≤ 1048576) (fu : Nat) (hf : FV ≤ fu) (k : Int) (h0 : 0 ≤ k) (hK : k + 4194304 ≤ 9000000000000000000) :
    ∃ k' a', l_markTermS fu xs k = some (k', a') ∧ l_heldTermS a' k = some k' ∧ k ≤ k' ∧ k' ≤ k + 2097152 := by
  obtain ⟨a', k', j, e, _, hch, h1, h2⟩ := mark_all (b := l_markTermS_b1) (fun y k k' => y = (⟨k, k + 1⟩ : Term) ∧ k' = k + 2 ∧ 0 ≤ k ∧ k ≤ 9000000000000000000) 2 9000000000000000000 (by omega) xs hl
    (fun a k i x hx _ h0 h1 => ⟨⟨k, k + 1⟩, k + 2, by
      have hi := (List.getElem?_eq_some_iff.1 hx).1
      show (if decide ((i : Int) < (a.length : Int)) then _ else _) = _
      rw [mk_lt hx, if_pos rfl, idx_nat, hx, Option.bind_some]
      simp only [Int.toNat_natCast, idx_set_self hx, Option.bind_some, List.set_set, i64_id (n := k + 1) (by omega) (by omega)]
      rw [i64_id (n := k + 1 + 1) (by omega) (by omega)]
      congr 4
      omega, ⟨rfl, rfl, h0, h1⟩, by omega, by omega⟩)
    (fun a k i h => by show (if decide ((i : Int) < (a.length : Int)) then _ else _) = _; rw [mk_ge h]; rfl) k fu hf h0 (by omega)
  refine ⟨k', a', ?_, ?_, h1, by omega⟩
  · unfold l_markTermS; rw [e]; rfl
  · unfold l_heldTermS
    rw [chain_range (b := l_heldTermS_b1) (P := fun y k k' => y = (⟨k, k + 1⟩ : Term) ∧ k' = k + 2 ∧ 0 ≤ k ∧ k ≤ 9000000000000000000) ?_ a' 0 k k' hch]
    · rfl
    · rintro i y k k' ⟨rfl, rfl, q0, q1⟩
      rw [l_heldTermS_b1]
      simp only [bne_self_eq_false, Bool.false_eq_true, if_false, i64_id (n := k + 1) (by omega) (by omega)]
      rw [i64_id (by omega) (by omega)]
      congr 2
      omega
def PC (y : Con) (k k' : Int) : Prop := l_heldTermS y.terms k = some (k' - 1) ∧ y.bound = k' - 1 ∧ 0 ≤ k' - 1 ∧ k' ≤ 9000000000000000000
theorem mkCons (xs : List Con) (h : smCs xs) (fu : Nat) (hf : FV ≤ fu) (k : Int) (h0 : 0 ≤ k) (hK : k ≤ 1000000000000000000) :
    ∃ k' a', l_markConstraintS fu xs k = some (k', a') ∧ l_heldConstraintS a' k = some k' ∧ k ≤ k' ∧ k' ≤ k + 2199024304128 := by
  obtain ⟨a', k', j, e, _, hch, h1, h2⟩ := mark_all (b := l_markConstraintS_b1 fu) PC 2097153 8000000000000000000 (by omega) xs h.1
    (fun a k i x hx hm h0 h1 => by
      obtain ⟨k1, y1, e1, g1, p1, q1⟩ := mkTerms x.terms (h.2 x hm) fu hf k h0 (by omega)
      have hi := (List.getElem?_eq_some_iff.1 hx).1
      refine ⟨⟨y1, k1⟩, k1 + 1, ?_, ⟨by rw [g1]; congr 1; omega, by simp only; omega, by omega, by omega⟩, by omega, by omega⟩
      show (if decide ((i : Int) < (a.length : Int)) then _ else _) = _
      rw [mk_lt hx, if_pos rfl, idx_nat, hx, Option.bind_some, e1, Option.bind_some]
      simp only [Int.toNat_natCast, idx_set_self hx, Option.bind_some, List.set_set, i64_id (n := k1 + 1) (by omega) (by omega)])
    (fun a k i h => by show (if decide ((i : Int) < (a.length : Int)) then _ else _) = _; rw [mk_ge h]; rfl) k fu hf h0 (by omega)
  refine ⟨k', a', ?_, ?_, h1, by omega⟩
  · unfold l_markConstraintS; rw [e]; rfl
  · unfold l_heldConstraintS
    rw [chain_range (b := l_heldConstraintS_b1) (P := PC) ?_ a' 0 k k' hch]
    · rfl
    · rintro i y k k' ⟨q1, q2, q3, q4⟩
      rw [l_heldConstraintS_b1, q1, Option.bind_some, if_neg (by simp; omega), q2, if_neg (by simp), i64_id (by omega) (by omega)]
      congr 2
      omega
end Go.L
namespace Go.L
open Go Go.E
set_option linter.unusedSimpArgs false
set_option linter.unusedVariables false
set_option maxRecDepth 100000
theorem smC_parse (l : List UInt8) : smC (parseC l).1 := by have := parseC_len l; unfold smC; omega
end Go.L
namespace Go.L
open Go Go.E
set_option linter.unusedSimpArgs false
set_option linter.unusedVariables false
set_option maxRecDepth 100000
noncomputable def parseL (ws : List (List UInt8)) : List Con × Bool :=
  if (ws.getD (ws.length - 1) [] == []) && decide (ws.length - 1 ≤ 400) && (ws.take (ws.length - 1)).all (fun w => (parseC w).2) then ((ws.take (ws.length - 1)).map (fun w => (parseC w).1), true) else ([], false)
noncomputable def parseP (l : List UInt8) : List Con × Bool := parseL (splitC 10 l)
theorem i_lines {l : List UInt8} (h : l.length ≤ 1048576) (most : Int) : i_linesOf (bs l) most =
    some (((splitC 10 l).take ((splitC 10 l).length - 1)).map bs, ((splitC 10 l).getD ((splitC 10 l).length - 1) [] == []) && decide ((((splitC 10 l).length - 1 : Nat) : Int) ≤ most)) := by
  have hne : (splitC 10 l).length ≠ 0 := by rw [Ne, List.length_eq_zero_iff]; exact splitC_ne 10 l
  have hwl := splitC_len 10 l
  unfold i_linesOf
  rw [show (⟨#[10]⟩ : ByteArray) = bs [10] from rfl, strings_split (by omega), Option.bind_some]
  generalize splitC 10 l = ws at *
  simp only [List.length_map]
  rw [show i64 ((ws.length : Int) - 1) = ((ws.length - 1 : Nat) : Int) from by rw [i64_id (by omega) (by omega)]; omega, sl_pre (by rw [List.length_map]; omega), Option.bind_some, idx_words (by omega), Option.bind_some,
    show (⟨#[]⟩ : ByteArray) = bs [] from rfl, eq_bs, List.map_take]
theorem parse_range {σ : Type} (ws : List (List UInt8)) (hw : ∀ w ∈ ws, w.length ≤ 1048576) (hl : ws.length ≤ 1048577) {fu : Nat} (hf : 100 ≤ fu) :
    rangeL (i_ParseProblem_b1 fu) (ws.map bs) 0 [] = some (if ws.all (fun w => (parseC w).2) then .nx (ws.map fun w => (parseC w).1) else .out ([], false)) := by
  obtain ⟨j, hj, hQ⟩ := range_inv (b := i_ParseProblem_b1 fu) (ws.map bs) (fun i s => s = (ws.take i).map (fun w => (parseC w).1) ∧ (ws.take i).all (fun w => (parseC w).2) = true)
    (fun j => j = if ws.all (fun w => (parseC w).2) then .nx (ws.map fun w => (parseC w).1) else .out ([], false)) (by
      rintro s ⟨rfl, h2⟩
      rw [List.length_map, List.take_length] at *
      rw [h2]; rfl) (by
      rintro i x s hx ⟨rfl, h2⟩
      rw [List.getElem?_map] at hx
      obtain ⟨w, hwi, rfl⟩ := Option.map_eq_some_iff.1 hx
      have hil := (List.getElem?_eq_some_iff.1 hwi).1
      have hmem := List.mem_of_getElem? hwi
      unfold i_ParseProblem_b1
      simp only []
      rw [i_parseC (hw w hmem) hf, Option.bind_some]
      have et : ws.take (i + 1) = ws.take i ++ [w] := by rw [List.take_add_one, hwi]; rfl
      cases hb : (parseC w).2 with
      | false =>
        refine ⟨_, rfl, ?_⟩
        have : ws.all (fun w => (parseC w).2) = false := by
          rw [Bool.eq_false_iff]
          intro hall
          rw [List.all_eq_true.1 hall w hmem] at hb
          cases hb
        rw [this]; rfl
      | true =>
        rw [if_neg (by simp), app_le (by simp; omega), Option.bind_some]
        refine ⟨_, rfl, ?_, ?_⟩
        · rw [et, List.map_append]; rfl
        · rw [et, List.all_append, h2]; simp [hb]) [] ⟨by simp, by simp⟩
  rw [hj, hQ]
theorem i_parseP {l : List UInt8} (h : l.length ≤ 1048576) {fu : Nat} (hf : 100 ≤ fu) : i_ParseProblem fu (bs l) = some (parseP l) := by
  have hw : ∀ w ∈ splitC 10 l, w.length ≤ l.length := fun w => splitC_mem
  have hwl := splitC_len 10 l
  unfold i_ParseProblem parseP parseL
  rw [i_lines h, Option.bind_some]
  generalize splitC 10 l = ws at *
  simp only
  have e : decide (((ws.length - 1 : Nat) : Int) ≤ 400) = decide (ws.length - 1 ≤ 400) := by
    by_cases hx : ws.length - 1 ≤ 400
    · rw [decide_eq_true hx, decide_eq_true (by omega)]
    · rw [decide_eq_false hx, decide_eq_false (by omega)]
  rw [e]
  cases hb : ((ws.getD (ws.length - 1) [] == []) && decide (ws.length - 1 ≤ 400)) with
  | false => rfl
  | true =>
    rw [if_neg (by simp), parse_range (σ := Unit) _ (fun w hx => by have := hw w (List.mem_of_mem_take hx); omega) (by rw [List.length_take]; omega) hf, Option.bind_some]
    cases (ws.take (ws.length - 1)).all (fun w => (parseC w).2) <;> rfl
theorem s_parseP {l : List UInt8} (h : l.length ≤ 1048576) {fu : Nat} (hf : 1000 ≤ fu) : s_ParseProblem fu (bs l) = some (parseP l) := by
  have hw : ∀ w ∈ splitC 10 l, w.length ≤ l.length := fun w => splitC_mem
  have hwl := splitC_len 10 l
  have hne : (splitC 10 l).length ≠ 0 := by rw [Ne, List.length_eq_zero_iff]; exact splitC_ne 10 l
  unfold s_ParseProblem parseP parseL
  rw [show ((10 : Int)) = ((10 : Nat) : Int) from rfl, s_cut (by omega) h, show UInt8.ofNat 10 = 10 from rfl, Option.bind_some]
  generalize splitC 10 l = ws at *
  simp only [List.length_map]
  by_cases h4 : ws.length - 1 ≤ 400
  · rw [if_neg (by simp only [decide_eq_true_eq]; omega), show i64 ((ws.length : Int) - 1) = ((ws.length - 1 : Nat) : Int) from by rw [i64_id (by omega) (by omega)]; omega, idx_words (by omega), Option.bind_some,
      show (⟨#[]⟩ : ByteArray) = bs [] from rfl, eq_bs, Option.bind_some]
    cases hg : (ws.getD (ws.length - 1) [] == []) with
    | false => simp
    | true =>
      rw [if_neg (by simp), decide_eq_true h4]
      obtain ⟨j, hj, hQ⟩ := while_inv (b := s_ParseProblem_b1 fu (ws.map bs)) (fun n s => ∃ k : Nat, s = ((ws.take k).map (fun w => (parseC w).1), (k : Int)) ∧ (ws.take k).all (fun w => (parseC w).2) = true ∧ k ≤ ws.length - 1 ∧ n = ws.length - 1 - k)
        (fun j => if (ws.take (ws.length - 1)).all (fun w => (parseC w).2) then ∃ i, j = .nx ((ws.take (ws.length - 1)).map (fun w => (parseC w).1), i) else j = .out ([], false)) (by
          rintro n s ⟨k, rfl, hall, hk, rfl⟩
          unfold s_ParseProblem_b1
          simp only [List.length_map]
          rw [i64_id (n := (k : Int) + 1) (by omega) (by omega)]
          by_cases hkK : k = ws.length - 1
          · rw [if_neg (by simp only [decide_eq_true_eq]; omega)]
            refine ⟨_, rfl, ?_⟩
            rw [← hkK, hall]
            exact ⟨_, rfl⟩
          · have hk2 : k < ws.length := by omega
            have hmem : ws.getD k [] ∈ ws := by unfold List.getD; rw [List.getElem?_eq_getElem hk2]; exact List.getElem_mem hk2
            rw [if_pos (by simp only [decide_eq_true_eq]; omega), idx_words hk2, Option.bind_some, s_parseC (by have := hw _ hmem; omega) (by omega), Option.bind_some]
            have et : ws.take (k + 1) = ws.take k ++ [ws.getD k []] := by rw [List.take_add_one]; unfold List.getD; rw [List.getElem?_eq_getElem hk2]; rfl
            cases hb : (parseC (ws.getD k [])).2 with
            | false =>
              refine ⟨_, rfl, ?_⟩
              have : (ws.take (ws.length - 1)).all (fun w => (parseC w).2) = false := by
                rw [Bool.eq_false_iff]
                intro hall2
                have hm2 : ws.getD k [] ∈ ws.take (ws.length - 1) := by
                  have : ws.getD k [] ∈ ws.take (k + 1) := by rw [et]; simp
                  exact (List.take_sublist_take_left (by omega)).subset this
                rw [List.all_eq_true.1 hall2 _ hm2] at hb
                cases hb
              rw [this]; rfl
            | true =>
              rw [if_neg (by simp), app_le (by simp; omega), Option.bind_some]
              refine ⟨_, rfl, ws.length - 1 - (k + 1), by omega, k + 1, ?_, ?_, by omega, rfl⟩
              · rw [et, List.map_append]; rfl
              · rw [et, List.all_append, hall]
                simp only [List.all_cons, List.all_nil, hb, Bool.and_self]) fu (ws.length - 1) (([] : List Con), (0 : Int)) ⟨0, by simp, by simp, by omega, rfl⟩ (by omega)
      rw [hj, Option.bind_some]
      cases hall : (ws.take (ws.length - 1)).all (fun w => (parseC w).2) with
      | false => rw [hall] at hQ; simp only [Bool.false_eq_true, if_false] at hQ; rw [hQ]; rfl
      | true =>
        rw [hall] at hQ
        simp only [if_true] at hQ
        obtain ⟨i, rfl⟩ := hQ
        rfl
  · rw [if_pos (by simp only [decide_eq_true_eq]; omega), decide_eq_false h4]
    simp
theorem parseP_small (l : List UInt8) : smCs (parseP l).1 := by
  unfold parseP parseL
  split
  · rename_i hc
    simp only [Bool.and_eq_true, decide_eq_true_eq] at hc
    refine ⟨by rw [List.length_map, List.length_take]; omega, fun c hc => ?_⟩
    obtain ⟨w, _, rfl⟩ := List.mem_map.1 hc
    exact smC_parse w
  · exact ⟨by simp, by simp⟩
theorem FnExactParseProblem_ok (aText : ByteArray) (g0 : aText.size ≤ maxLen) : ∃ fu, l_FnExactParseProblem fu aText = some true := by
  refine ⟨FV, ?_⟩
  unfold l_FnExactParseProblem
  split
  · rfl
  · rename_i hs
    obtain ⟨l, rfl⟩ : ∃ l, aText = bs l := ⟨_, bs_of aText⟩
    have hl : l.length ≤ 1048576 := by rw [bs_size] at hs; simp only [decide_eq_true_eq] at hs; omega
    obtain ⟨k', a', e1, e2, h1, h2⟩ := mkCons (parseP l).1 (parseP_small l) FV (Nat.le_refl _) 1 (by omega) (by omega)
    simp only [s_parseP hl (show 1000 ≤ FV by decide), i_parseP hl (show 100 ≤ FV by decide), Option.bind_some, eqCons, e1, e2]
    have n1 : decide (k' < 0) = false := by simp only [decide_eq_false_iff_not]; omega
    simp [n1]
end Go.L
