/- The plain law: what the functions compute, and that it answers as the statement says. -/
import Derived.Test.YtohpkefnmkdaeaaGreatDoorG10
import Derived.Test.YtohpkefnmkdaeaaGreatDoorD1
import Derived.Lib.ItoaMem
import Derived.Lib.SplitLaws
namespace Go.L
open Go Go.E
set_option linter.unusedVariables false
def FU : Nat := 1000000
def ML : Nat := 9223372036854775807
section
variable {α β σ τ : Type}
theorem idx_nat (xs : List α) (i : Nat) : idx xs (i : Int) = xs[i]? := by
  unfold idx; rw [if_pos (Int.natCast_nonneg i), Int.toNat_natCast]
theorem idx_lt {xs : List α} {i : Nat} (h : i < xs.length) : idx xs (i : Int) = some xs[i] := by rw [idx_nat, List.getElem?_eq_getElem h]
theorem idx_get {xs : List α} {k : Int} (h0 : 0 ≤ k) (h : k.toNat < xs.length) : idx xs k = some xs[k.toNat] := by
  unfold idx; rw [if_pos h0, List.getElem?_eq_getElem h]
theorem mkN_le {n : Nat} (x : α) (h : n ≤ 4294967296) : mkN (n : Int) x = some (List.replicate n x) := by
  unfold mkN
  rw [if_pos (by omega), Int.toNat_natCast]
theorem sl_pre {xs : List α} {i : Nat} (h : i ≤ xs.length) : sl xs 0 (i : Int) = some (xs.take i) := by
  unfold sl
  rw [if_pos (by omega), Int.toNat_natCast]
  rfl
theorem app_le {xs ys : List α} (h : xs.length + ys.length ≤ 4294967296) : app xs ys = some (xs ++ ys) := if_pos h
theorem cntF_nat {n : Nat} (h : n ≤ 4294967296) : cntF 0 (n : Int) = some n := by
  unfold cntF
  rw [if_pos (by omega)]
  congr 1
theorem cntF_of {s : Nat} {e : Int} (h : e ≤ 4294967296) (hs : s ≤ 4294967296) : cntF s e = some (e - s).toNat := if_pos ⟨h, hs⟩
theorem range_to {b : Nat → α → σ → Option (Lo σ τ)} (F : Nat → σ) (xs0 : List α) (h : ∀ i x, xs0[i]? = some x → b i x (F i) = some (.cont (F (i + 1)))) :
    rangeL b xs0 0 (F 0) = some (.nx (F xs0.length)) := by
  have key : ∀ (xs : List α) (i : Nat), xs0.drop i = xs → i ≤ xs0.length → rangeL b xs i (F i) = some (.nx (F xs0.length)) := by
    intro xs
    induction xs with
    | nil =>
      intro i hd hi
      rw [List.drop_eq_nil_iff] at hd
      obtain rfl : i = xs0.length := by omega
      rfl
    | cons x xs ih =>
      intro i hd hi
      have hx := drop_idx hd
      rw [idx_nat] at hx
      show (b i x (F i)).bind _ = _
      rw [h i x hx]
      exact ih (i + 1) (drop_next hd) (List.getElem?_eq_some_iff.1 hx).1
  exact key xs0 0 rfl (Nat.zero_le _)
theorem count_to {b : Nat → σ → Option (Lo σ τ)} (F : Nat → σ) : ∀ (n s : Nat), (∀ i, s ≤ i → i < s + n → b i (F i) = some (.cont (F (i + 1)))) → countL b n s (F s) = some (.nx (F (s + n)))
  | 0, s, _ => rfl
  | n + 1, s, h => by
    show (b s (F s)).bind _ = _
    rw [h s (Nat.le_refl _) (by omega)]
    show countL b n (s + 1) (F (s + 1)) = _
    rw [count_to F n (s + 1) fun i h1 h2 => h i (by omega) (by omega)]
    congr 3; omega
theorem range_inv {b : Nat → α → σ → Option (Lo σ τ)} (xs0 : List α) (I : Nat → σ → Prop) (Q : Jn σ τ → Prop) (h0 : ∀ s, I xs0.length s → Q (.nx s))
    (h : ∀ i x s, xs0[i]? = some x → I i s → ∃ o, b i x s = some o ∧ (match o with | .cont s' => I (i + 1) s' | .brk s' => Q (.nx s') | .out t => Q (.out t))) (s : σ) (hs : I 0 s) :
    ∃ j, rangeL b xs0 0 s = some j ∧ Q j := by
  have key : ∀ (xs : List α) (i : Nat) (s : σ), xs0.drop i = xs → i ≤ xs0.length → I i s → ∃ j, rangeL b xs i s = some j ∧ Q j := by
    intro xs
    induction xs with
    | nil =>
      intro i s hd hi hI
      rw [List.drop_eq_nil_iff] at hd
      obtain rfl : i = xs0.length := by omega
      exact ⟨_, rfl, h0 s hI⟩
    | cons x xs ih =>
      intro i s hd hi hI
      have hx := drop_idx hd
      rw [idx_nat] at hx
      obtain ⟨o, hb, ho⟩ := h i x s hx hI
      have hl := (List.getElem?_eq_some_iff.1 hx).1
      cases o with
      | cont s' =>
        obtain ⟨j, hj, hQ⟩ := ih (i + 1) s' (drop_next hd) hl ho
        exact ⟨j, by show (b i x s).bind _ = _; rw [hb]; exact hj, hQ⟩
      | brk s' => exact ⟨_, by show (b i x s).bind _ = _; rw [hb]; rfl, ho⟩
      | out t => exact ⟨_, by show (b i x s).bind _ = _; rw [hb]; rfl, ho⟩
  exact key xs0 0 s rfl (Nat.zero_le _) hs
theorem count_inv {b : Nat → σ → Option (Lo σ τ)} (I : Nat → σ → Prop) (Q : Jn σ τ → Prop) : ∀ (n k : Nat) (h0 : ∀ s, I (k + n) s → Q (.nx s))
    (h : ∀ i s, k ≤ i → i < k + n → I i s → ∃ o, b i s = some o ∧ (match o with | .cont s' => I (i + 1) s' | .brk s' => Q (.nx s') | .out t => Q (.out t))) (s : σ) (hs : I k s),
    ∃ j, countL b n k s = some j ∧ Q j
  | 0, k, h0, h, s, hs => ⟨_, rfl, h0 s hs⟩
  | n + 1, k, h0, h, s, hs => by
    obtain ⟨o, hb, ho⟩ := h k s (Nat.le_refl _) (by omega) hs
    cases o with
    | cont s' =>
      obtain ⟨j, hj, hQ⟩ := count_inv I Q n (k + 1) (fun s hs => h0 s (by rwa [show k + (n + 1) = k + 1 + n from by omega])) (fun i s h1 h2 => h i s (by omega) (by omega)) s' ho
      exact ⟨j, by show (b k s).bind _ = _; rw [hb]; exact hj, hQ⟩
    | brk s' => exact ⟨_, by show (b k s).bind _ = _; rw [hb]; rfl, ho⟩
    | out t => exact ⟨_, by show (b k s).bind _ = _; rw [hb]; rfl, ho⟩
theorem while_inv {b : σ → Option (Lo σ τ)} (I : Nat → σ → Prop) (Q : Jn σ τ → Prop)
    (h : ∀ n s, I n s → ∃ o, b s = some o ∧ (match o with | .cont s' => ∃ m, m < n ∧ I m s' | .brk s' => Q (.nx s') | .out t => Q (.out t))) :
    ∀ k n s, I n s → n < k → ∃ j, whileL b k s = some j ∧ Q j := by
  intro k
  induction k with
  | zero => intro n s _ h; omega
  | succ k ih =>
    intro n s hI hk
    obtain ⟨o, hb, ho⟩ := h n s hI
    cases o with
    | cont s' =>
      obtain ⟨m, hm, hI'⟩ := ho
      obtain ⟨j, hj, hQ⟩ := ih m s' hI' (by omega)
      exact ⟨j, by show (b s).bind _ = _; rw [hb]; exact hj, hQ⟩
    | brk s' => exact ⟨_, by show (b s).bind _ = _; rw [hb]; rfl, ho⟩
    | out t => exact ⟨_, by show (b s).bind _ = _; rw [hb]; rfl, ho⟩
def allFrom (q : Nat → α → Bool) : List α → Nat → Bool
  | [], _ => true
  | x :: xs, i => q i x && allFrom q xs (i + 1)
theorem allFrom_const (q : α → Bool) : ∀ (xs : List α) (i : Nat), allFrom (fun _ x => q x) xs i = xs.all q
  | [], _ => rfl
  | x :: xs, i => by rw [allFrom, allFrom_const q xs, List.all_cons]
theorem allFrom_iff (q : Nat → α → Bool) : ∀ (xs : List α) (k : Nat), allFrom q xs k = true ↔ ∀ i x, xs[i]? = some x → q (k + i) x = true
  | [], k => by simp [allFrom]
  | x :: xs, k => by
    rw [allFrom, Bool.and_eq_true, allFrom_iff q xs (k + 1)]
    constructor
    · rintro ⟨h0, h⟩ i y hy
      cases i with
      | zero => simp at hy; subst hy; simpa using h0
      | succ i => have := h i y (by simpa using hy); rwa [show k + 1 + i = k + (i + 1) from by omega] at this
    · intro h
      exact ⟨by simpa using h 0 x rfl, fun i y hy => by have := h (i + 1) y (by simpa using hy); rwa [show k + (i + 1) = k + 1 + i from by omega] at this⟩
theorem range_allI (q : Nat → α → Bool) (t : τ) {b : Nat → α → Unit → Option (Lo Unit τ)} (xs0 : List α)
    (hb : ∀ (i : Nat) (x : α), xs0[i]? = some x → b i x () = some (if q i x then .cont () else .out t)) : rangeL b xs0 0 () = some (if allFrom q xs0 0 then .nx () else .out t) := by
  have key : ∀ (xs : List α) (i : Nat), xs0.drop i = xs → rangeL b xs i () = some (if allFrom q xs i then .nx () else .out t) := by
    intro xs
    induction xs with
    | nil => intro i _; rfl
    | cons x xs ih =>
      intro i h
      have hx := drop_idx h
      rw [idx_nat] at hx
      show (b i x ()).bind _ = _
      rw [hb i x hx]
      cases hq : q i x with
      | true => show rangeL b xs (i + 1) () = _; rw [ih (i + 1) (drop_next h)]; simp [allFrom, hq]
      | false => simp [allFrom, hq]
  exact key xs0 0 rfl
theorem range_all (q : α → Bool) (t : τ) {b : Nat → α → Unit → Option (Lo Unit τ)} (xs0 : List α)
    (hb : ∀ (i : Nat) (x : α), xs0[i]? = some x → b i x () = some (if q x then .cont () else .out t)) : rangeL b xs0 0 () = some (if xs0.all q then .nx () else .out t) := by
  rw [range_allI (fun _ => q) t xs0 hb, allFrom_const]
theorem range_map {b : Nat → α → List β → Option (Lo (List β) τ)} (f : α → β) (xs0 : List α) (h : ∀ i x out, xs0[i]? = some x → out.length = i → b i x out = some (.cont (out ++ [f x]))) :
    rangeL b xs0 0 [] = some (.nx (xs0.map f)) := by
  have := range_to (b := b) (fun i => (xs0.take i).map f) xs0 (by
    intro i x hx
    have hi := (List.getElem?_eq_some_iff.1 hx).1
    rw [h i x _ hx (by simp; omega)]
    rw [List.take_add_one, hx]
    simp)
  simpa using this
end
end Go.L
namespace Go.L
open Go Go.E
set_option linter.unusedSimpArgs false
set_option linter.unusedVariables false
theorem bs_list (l : List UInt8) : (bs l).data.toList = l := by simp [bs]
theorem bs_size (l : List UInt8) : (bs l).size = l.length := by show l.toArray.size = _; simp
theorem bs_of (s : ByteArray) : s = bs s.data.toList := (bs_data s).symm
theorem cat_bs {a b : List UInt8} (h : a.length + b.length ≤ 9223372036854775807) : cat (bs a) (bs b) = some (bs (a ++ b)) := by
  unfold cat
  rw [if_pos (by rw [bs_size, bs_size]; exact h)]
  simp only [bs]
  exact congrArg some (ByteArray.ext (by simp))
theorem catB_bs {a b : List UInt8} (h : a.length + b.length ≤ 140737488355328) : catB (bs a) (bs b) = some (bs (a ++ b)) := by
  unfold catB
  rw [if_pos (by rw [bs_size, bs_size]; exact h)]
  simp only [bs]
  exact congrArg some (ByteArray.ext (by simp))
theorem eq_bs (a b : List UInt8) : (ByteArray.toList (bs a) == ByteArray.toList (bs b)) = (a == b) := by
  simp only [bs, ByteArray.toList_mk]
theorem sidx_bs (l : List UInt8) (k : Int) : sidx (bs l) k = idx l k := by unfold sidx; rw [bs_list]
theorem ssl_bs {l : List UInt8} {a b : Int} (h0 : 0 ≤ a) (h1 : a ≤ b) (h2 : b ≤ (l.length : Int)) : ssl (bs l) a b = some (bs ((l.drop a.toNat).take (b.toNat - a.toNat))) := by
  unfold ssl
  rw [if_pos ⟨h0, h1, by rw [bs_size]; exact h2⟩]
  show some ((ByteArray.mk l.toArray).extract _ _) = _
  rw [ByteArray.extract_mk]
  rfl
theorem ssl_from {l : List UInt8} {a : Nat} (h : a ≤ l.length) : ssl (bs l) (a : Int) ((bs l).size : Int) = some (bs (l.drop a)) := by
  rw [bs_size, ssl_bs (by omega) (by omega) (by omega)]
  simp [List.take_of_length_le]
def dec (n : Nat) : List UInt8 := Go.Lib.decDigits n
theorem dec_small {n : Nat} (h : n < 10) : dec n = [UInt8.ofNat (48 + n)] := Go.Lib.decDigits_one h
theorem dec_big {n : Nat} (h : ¬ n < 10) : dec n = dec (n / 10) ++ [UInt8.ofNat (48 + n % 10)] := by
  unfold dec
  rw [Go.Lib.decDigits, dif_neg h]
theorem dec_len : ∀ (k n : Nat), n < 10 ^ (k + 1) → (dec n).length ≤ k + 1
  | 0, n, h => by rw [dec_small (by simpa using h)]; simp
  | k + 1, n, h => by
    by_cases hn : n < 10
    · rw [dec_small hn]; simp
    · rw [dec_big hn, List.length_append]
      have := dec_len k (n / 10) (by rw [Nat.div_lt_iff_lt_mul (by omega)]; rw [Nat.pow_succ] at h; omega)
      simp; omega
theorem dec_pos (n : Nat) : 1 ≤ (dec n).length := by
  by_cases hn : n < 10
  · rw [dec_small hn]; simp
  · rw [dec_big hn]; simp
theorem dec_len20 {n : Nat} (h : n ≤ 9223372036854775807) : (dec n).length ≤ 19 := dec_len 18 n (by omega)
theorem dec_digit : ∀ (n : Nat), ∀ b ∈ dec n, 48 ≤ b.toNat ∧ b.toNat ≤ 57 := by
  intro n
  induction n using Nat.strongRecOn with
  | ind n ih =>
    intro b hb
    by_cases hn : n < 10
    · rw [dec_small hn] at hb
      obtain rfl := List.mem_singleton.1 hb
      rw [UInt8.toNat_ofNat']
      omega
    · rw [dec_big hn] at hb
      rcases List.mem_append.1 hb with h | h
      · exact ih _ (by omega) b h
      · obtain rfl := List.mem_singleton.1 h
        rw [UInt8.toNat_ofNat']
        omega
def val (a : Nat) (l : List UInt8) : Nat := l.foldl (fun a b => a * 10 + (b.toNat - 48)) a
theorem val_ge : ∀ (l : List UInt8) (a : Nat), a ≤ val a l
  | [], a => Nat.le_refl a
  | b :: l, a => Nat.le_trans (by omega) (val_ge l (a * 10 + (b.toNat - 48)))
theorem val_dec : ∀ n, val 0 (dec n) = n := by
  intro n
  induction n using Nat.strongRecOn with
  | ind n ih =>
    by_cases hn : n < 10
    · rw [dec_small hn]
      simp only [val, List.foldl_cons, List.foldl_nil, UInt8.toNat_ofNat']
      omega
    · rw [dec_big hn]
      have := ih (n / 10) (by omega)
      unfold val at this ⊢
      rw [List.foldl_append, this]
      simp only [List.foldl_cons, List.foldl_nil, UInt8.toNat_ofNat']
      omega
theorem dec_head : ∀ (n : Nat), n ≠ 0 → (dec n)[0]? ≠ some 48 := by
  intro n
  induction n using Nat.strongRecOn with
  | ind n ih =>
    intro h0
    by_cases hn : n < 10
    · rw [dec_small hn]
      simp only [List.getElem?_cons_zero, ne_eq, Option.some.injEq]
      intro h
      have := congrArg UInt8.toNat h
      rw [UInt8.toNat_ofNat'] at this
      simp at this
      omega
    · rw [dec_big hn, List.getElem?_append_left (by have := dec_pos (n / 10); omega)]
      exact ih _ (by omega) (by omega)
theorem wrap_u8 {x : Int} (h0 : 0 ≤ x) (h1 : x < 256) : IntKind.u8.wrap x = x := by
  unfold IntKind.wrap IntKind.bits IntKind.signed
  simp
  omega
theorem u8w_nat {m : Nat} (h : m < 256) : u8w (m : Int) = UInt8.ofNat m := by
  unfold u8w
  rw [wrap_u8 (by omega) (by omega)]
  rfl
theorem itoa_nat {n : Nat} (h : n ≤ 9223372036854775807) : strconv_Itoa (n : Int) = some (bs (dec n)) := by
  unfold strconv_Itoa
  rw [if_pos ⟨by omega, by omega⟩, Go.Lib.itoa_nonneg]
  rfl
theorem itoa_of {n : Int} (h0 : 0 ≤ n) (h : n ≤ 9223372036854775807) : strconv_Itoa n = some (bs (dec n.toNat)) := by
  have := itoa_nat (n := n.toNat) (by omega)
  rwa [show ((n.toNat : Nat) : Int) = n by omega] at this
theorem s_dec_loop (n : Nat) (hn : n ≤ 9223372036854775807) (fu : Nat) (hf : 30 ≤ fu) : ∃ j, whileL s_l17Dec_b1 fu ((n : Int), (⟨#[]⟩ : ByteArray)) = some j ∧ ∃ (m : Nat) (o : List UInt8), j = .nx ((m : Int), bs o) ∧ m < 10 ∧ dec n = dec m ++ o := by
  refine while_inv (fun k s => ∃ (m : Nat) (o : List UInt8), s = ((m : Int), bs o) ∧ m ≤ n ∧ dec n = dec m ++ o ∧ k = (dec m).length) _ ?_ fu (dec n).length _ ⟨n, [], rfl, Nat.le_refl _, by simp, rfl⟩ (by have := dec_len20 hn; omega)
  rintro k s ⟨m, o, rfl, hm, hd, rfl⟩
  unfold s_l17Dec_b1
  by_cases h : m < 10
  · simp only []
    rw [if_neg (by simp only [decide_eq_true_eq]; omega)]
    exact ⟨_, rfl, m, o, rfl, h, hd⟩
  · simp only []
    have hl := dec_len20 hn
    rw [hd, List.length_append] at hl
    have hm1 := dec_pos m
    rw [if_pos (by simp only [decide_eq_true_eq]; omega), show Int.tmod (m : Int) 10 = ((m % 10 : Nat) : Int) from by rw [Int.tmod_eq_emod_of_nonneg (by omega)]; omega,
      show (i64 (48 + ((m % 10 : Nat) : Int))) = ((48 + m % 10 : Nat) : Int) from by rw [i64_id (by omega) (by omega)]; omega, u8w_nat (by omega), cat_bs (by simp; omega), Option.bind_some]
    refine ⟨_, rfl, _, ?_, m / 10, UInt8.ofNat (48 + m % 10) :: o, ?_, by omega, ?_, rfl⟩
    · rw [dec_big h]; simp
    · rw [show Int.tdiv (m : Int) 10 = ((m / 10 : Nat) : Int) from by rw [Int.tdiv_eq_ediv_of_nonneg (by omega)]; omega, i64_id (by omega) (by omega)]
      rfl
    · rw [hd, dec_big h]; simp
theorem s_dec {n : Nat} (hn : n ≤ 9223372036854775807) {fu : Nat} (hf : 30 ≤ fu) : s_l17Dec fu (n : Int) = some (bs (dec n)) := by
  obtain ⟨k, rfl⟩ : ∃ k, fu = k + 1 := ⟨fu - 1, by omega⟩
  unfold s_l17Dec
  show s_l17Dec_F (k + 1) (s_l17Dec_R (k + 1) k) (n : Int) = _
  unfold s_l17Dec_F
  rw [if_neg (by simp only [decide_eq_true_eq]; omega), if_neg (by simp only [decide_eq_true_eq]; omega)]
  obtain ⟨j, hj, m, o, rfl, hm, hd⟩ := s_dec_loop n hn (k + 1) hf
  rw [hj, Option.bind_some]
  have hl := dec_len20 hn
  rw [hd, List.length_append] at hl
  have hm1 := dec_pos m
  show Option.bind (cat (bs [u8w (i64 (48 + (m : Int)))]) (bs o)) _ = _
  rw [show (i64 (48 + (m : Int))) = ((48 + m : Nat) : Int) from by rw [i64_id (by omega) (by omega)]; omega, u8w_nat (by omega), cat_bs (by simp; omega), Option.bind_some, hd, dec_small hm]
theorem s_dec_of {n : Int} (h0 : 0 ≤ n) (h : n ≤ 9223372036854775807) {fu : Nat} (hf : 30 ≤ fu) : s_l17Dec fu n = some (bs (dec n.toNat)) := by
  have := s_dec (n := n.toNat) (by omega) hf
  rwa [show ((n.toNat : Nat) : Int) = n by omega] at this
end Go.L
namespace Go.L
open Go Go.E
set_option linter.unusedSimpArgs false
set_option linter.unusedVariables false
def splitC (c : UInt8) : List UInt8 → List (List UInt8)
  | [] => [[]]
  | b :: l => if b = c then [] :: splitC c l else match splitC c l with
    | [] => [[b]]
    | w :: ws => (b :: w) :: ws
theorem splitC_ne (c : UInt8) : ∀ l, splitC c l ≠ []
  | [] => by simp [splitC]
  | b :: l => by
    unfold splitC
    split
    · simp
    · split <;> simp
theorem splitC_none {c : UInt8} : ∀ {w : List UInt8}, c ∉ w → splitC c w = [w]
  | [], _ => rfl
  | b :: w, h => by
    have h1 : b ≠ c := fun e => h (by simp [e])
    rw [splitC, if_neg h1, splitC_none (fun e => h (List.mem_cons_of_mem _ e))]
theorem splitC_cut {c : UInt8} : ∀ {w : List UInt8} (r : List UInt8), c ∉ w → splitC c (w ++ c :: r) = w :: splitC c r
  | [], r, _ => by simp [splitC]
  | b :: w, r, h => by
    have h1 : b ≠ c := fun e => h (by simp [e])
    rw [List.cons_append, splitC, if_neg h1, splitC_cut r (fun e => h (List.mem_cons_of_mem _ e))]
theorem splitC_len (c : UInt8) : ∀ l, (splitC c l).length ≤ l.length + 1
  | [] => by simp [splitC]
  | b :: l => by
    have ih := splitC_len c l
    unfold splitC
    split
    · simp; omega
    · split
      · simp
      · rename_i h; rw [h] at ih; simp at ih ⊢; omega
theorem splitC_mem {c : UInt8} : ∀ {l : List UInt8} {w : List UInt8}, w ∈ splitC c l → w.length ≤ l.length
  | [], w, h => by simp [splitC] at h; subst h; simp
  | b :: l, w, h => by
    unfold splitC at h
    split at h
    · rcases List.mem_cons.1 h with rfl | h
      · simp
      · have := splitC_mem h; simp; omega
    · split at h
      · simp at h; subst h; simp
      · rename_i w' ws' e
        rcases List.mem_cons.1 h with rfl | h
        · have := splitC_mem (l := l) (w := w') (by rw [e]; simp); simp; omega
        · have := splitC_mem (l := l) (w := w) (by rw [e]; simp [h]); simp; omega
theorem first_cut {c : UInt8} {l : List UInt8} (h : c ∈ l) : ∃ w r, l = w ++ c :: r ∧ c ∉ w := List.eq_append_cons_of_mem h
theorem index_cut {c : UInt8} : ∀ {w : List UInt8} (r : List UInt8), c ∉ w → Go.Lib.index (w ++ c :: r) [c] = w.length
  | [], r, _ => by simp [Go.Lib.index, List.isPrefixOf]
  | b :: w, r, h => by
    have h1 : c ≠ b := fun e => h (by simp [e])
    have ih := index_cut r (fun e => h (List.mem_cons_of_mem _ e))
    rw [List.cons_append, Go.Lib.index, ih]
    simp [List.isPrefixOf, h1]
theorem index_none {c : UInt8} : ∀ {w : List UInt8}, c ∉ w → Go.Lib.index w [c] = -1
  | [], _ => by simp [Go.Lib.index]
  | b :: w, h => by
    have h1 : c ≠ b := fun e => h (by simp [e])
    rw [Go.Lib.index, index_none (fun e => h (List.mem_cons_of_mem _ e))]
    simp [List.isPrefixOf, h1]
theorem splitK_eq (c : UInt8) : ∀ (k : Nat) (l : List UInt8), l.count c = k → Go.Lib.splitK [c] 0 k l = splitC c l
  | 0, l, h => by
    rw [Go.Lib.splitK, splitC_none (List.count_eq_zero.1 h)]
  | k + 1, l, h => by
    obtain ⟨w, r, rfl, hw⟩ := first_cut (List.count_pos_iff.1 (by omega : 0 < l.count c))
    have hr : r.count c = k := by
      rw [List.count_append, List.count_cons_self, List.count_eq_zero.2 hw] at h
      omega
    rw [Go.Lib.splitK, index_cut r hw, if_neg (by simp <;> omega), splitC_cut r hw]
    simp only [Int.toNat_natCast, Nat.add_zero, List.length_cons, List.length_nil]
    rw [List.take_left' rfl, show w ++ c :: r = (w ++ [c]) ++ r by simp, List.drop_left' (by simp), splitK_eq c k r hr]
theorem map_bs (xs : List ByteArray) : xs = (xs.map (·.data.toList)).map bs := by
  induction xs with
  | nil => rfl
  | cons x xs ih => rw [List.map_cons, List.map_cons, ← ih, ← bs_of]
theorem strings_split {l : List UInt8} {c : UInt8} (h : l.length < 4294967281) : strings_Split (bs l) (bs [c]) = some ((splitC c l).map bs) := by
  unfold strings_Split
  rw [if_pos ⟨by rw [bs_size]; exact h, by rw [bs_size]; simp⟩, map_bs (Go.Lib.splitB _ _ _ _), Go.Lib.splitB_data, bs_list, bs_list]
  congr 2
  refine splitK_eq c _ l ?_
  show _ = Go.Lib.count (bs l).data.toList (bs [c]).data.toList
  rw [bs_list, bs_list, Go.Lib.count_one]
theorem s_cut {l : List UInt8} {c : Nat} (hc : c < 256) (h : l.length ≤ 1048576) : s_l17Cut (bs l) (c : Int) = some ((splitC (UInt8.ofNat c) l).map bs) := by
  have hcc : ((UInt8.ofNat c).toNat) = c := by rw [UInt8.toNat_ofNat']; omega
  unfold s_l17Cut
  rw [bs_size, show ((l.length : Int) + 1) = ((l.length + 1 : Nat) : Int) by omega, cntF_nat (by omega), Option.bind_some]
  obtain ⟨j, hj, out, fr, rfl, rfl⟩ : ∃ j, countL (s_l17Cut_b1 (bs l) (c : Int)) (l.length + 1) 0 ([], 0) = some j ∧ ∃ (out : List (List UInt8)) (fr : Int), j = .nx (out.map bs, fr) ∧ out = splitC (UInt8.ofNat c) l := by
    refine count_inv (fun i s => ∃ (out : List (List UInt8)) (fr : Nat), s = (out.map bs, (fr : Int)) ∧ fr ≤ i ∧ out.length ≤ i ∧
      (i ≤ l.length → UInt8.ofNat c ∉ (l.drop fr).take (i - fr) ∧ out ++ splitC (UInt8.ofNat c) (l.drop fr) = splitC (UInt8.ofNat c) l) ∧ (l.length < i → out = splitC (UInt8.ofNat c) l)) _ (l.length + 1) 0 ?_ ?_ _ ⟨[], 0, rfl, Nat.le_refl _, Nat.le_refl _, fun _ => ⟨by simp, by simp⟩, fun h => by omega⟩
    · rintro s ⟨out, fr, rfl, _, _, _, h2⟩
      exact ⟨out, _, rfl, h2 (by omega)⟩
    · rintro i s _ hi ⟨out, fr, rfl, hfr, hol, h1, _⟩
      have hi : i ≤ l.length := by omega
      obtain ⟨h1, h2⟩ := h1 hi
      unfold s_l17Cut_b1
      simp only []
      have hend : ∀ (w : List UInt8), w = (l.drop fr).take (i - fr) → ((ssl (bs l) (fr : Int) (i : Int)).bind fun x23 => (app (out.map bs) ([x23])).bind fun x27 => some (x27, i64 ((i : Int) + 1))) = some ((out ++ [w]).map bs, ((i + 1 : Nat) : Int)) := by
        rintro w rfl
        rw [ssl_bs (by omega) (by omega) (by omega), Option.bind_some, app_le (by simp; omega), Option.bind_some, i64_id (by omega) (by omega)]
        simp
      by_cases he : i = l.length
      · subst he
        rw [if_pos (by simp [bs_size]), Option.bind_some]
        simp only [if_true]
        rw [hend _ rfl]
        simp only [Option.bind_some]
        refine ⟨_, rfl, _, l.length + 1, rfl, by omega, by simp; omega, fun h => by omega, fun _ => ?_⟩
        rw [← h2]
        have h3 : (l.drop fr).take (l.length - fr) = l.drop fr := List.take_of_length_le (by simp)
        rw [h3] at h1 ⊢
        rw [splitC_none h1]
      · have hlt : i < l.length := by omega
        rw [if_neg (by simp only [bs_size, beq_iff_eq]; omega), sidx_bs, idx_lt hlt, Option.bind_some, Option.bind_some]
        by_cases hb : l[i] = UInt8.ofNat c
        · have e1 : (((l[i]).toNat : Int) == (((c : Int).toNat : Nat) : Int)) = true := by rw [hb, hcc]; simp
          rw [e1]
          simp only [if_true]
          rw [hend _ rfl]
          simp only [Option.bind_some]
          refine ⟨_, rfl, _, i + 1, rfl, by omega, by simp; omega, fun _ => ⟨by simp, ?_⟩, fun h => by omega⟩
          rw [← h2, List.append_assoc]
          congr 1
          have hd : l.drop fr = (l.drop fr).take (i - fr) ++ UInt8.ofNat c :: l.drop (i + 1) := by
            have e2 : (l.drop fr).drop (i - fr) = l.drop i := by rw [List.drop_drop]; congr 1; omega
            have e3 : l.drop i = UInt8.ofNat c :: l.drop (i + 1) := by rw [List.drop_eq_getElem_cons hlt, hb]
            rw [← e3, ← e2, List.take_append_drop]
          rw [List.singleton_append]
          conv => rhs; rw [hd]
          rw [splitC_cut _ h1]
        · have e1 : (((l[i]).toNat : Int) == (((c : Int).toNat : Nat) : Int)) = false := by
            simp only [beq_eq_false_iff_ne]
            intro e
            exact hb (UInt8.toNat_inj.1 (by rw [hcc]; omega))
          rw [e1]
          simp only [Bool.false_eq_true, if_false, Option.bind_some]
          refine ⟨_, rfl, out, fr, rfl, by omega, by omega, fun _ => ⟨?_, h2⟩, fun h => by omega⟩
          have e4 : i + 1 - fr = (i - fr) + 1 := by omega
          have e5 : (l.drop fr)[i - fr]? = some l[i] := by rw [List.getElem?_drop, show fr + (i - fr) = i by omega, List.getElem?_eq_getElem hlt]
          rw [e4, List.take_add_one, e5]
          intro hm
          rcases List.mem_append.1 hm with h | h
          · exact h1 h
          · simp at h; exact hb h.symm
  rw [hj, Option.bind_some]
end Go.L
namespace Go.L
open Go Go.E
set_option linter.unusedVariables false
set_option linter.unusedSimpArgs false
set_option maxRecDepth 100000
def absI (n : Int) : Int := max n (-n)
def okT (t : Term) : Bool := (t.lit != 0 && decide (-12 ≤ t.lit) && decide (t.lit ≤ 12)) && (decide (1 ≤ t.coef) && decide (t.coef ≤ 1000))
def okTerms : Int → List Term → Bool
  | _, [] => true
  | b, t :: ts => (okT t && decide (b < absI t.lit)) && okTerms (absI t.lit) ts
def okB (b : Int) : Bool := decide (0 ≤ b) && decide (b ≤ 20000)
def okCon (c : Con) : Bool := okTerms 0 c.terms && okB c.bound
theorem i_valid_loop : ∀ (ts : List Term) (i : Nat) (b : Int), ∃ b', rangeL i_ConstraintValid_b1 ts i b = some (if okTerms b ts then .nx b' else .out false)
  | [], i, b => ⟨b, rfl⟩
  | t :: ts, i, b => by
    obtain ⟨b', h⟩ := i_valid_loop ts (i + 1) (absI t.lit)
    refine ⟨b', ?_⟩
    show (i_ConstraintValid_b1 i t b).bind _ = _
    have e : i_ConstraintValid_b1 i t b = some (if okT t && decide (b < absI t.lit) then .cont (absI t.lit) else .out false) := by
      unfold i_ConstraintValid_b1 i_isLiteral i_within i_variableOf okT absI
      by_cases h0 : t.lit = 0
      · simp [h0]
      by_cases h1 : -12 ≤ t.lit ∧ t.lit ≤ 12
      · rw [i64_id (n := -t.lit) (by omega) (by omega)]
        by_cases h2 : 1 ≤ t.coef ∧ t.coef ≤ 1000
        · by_cases h3 : b < max t.lit (-t.lit)
          · have : ¬ max t.lit (-t.lit) ≤ b := by omega
            simp [h0, h1.1, h1.2, h2.1, h2.2, h3, this]
          · have : max t.lit (-t.lit) ≤ b := by omega
            simp [h0, h1.1, h1.2, h2.1, h2.2, h3, this]
        · have h2' : (decide (1 ≤ t.coef) && decide (t.coef ≤ 1000)) = false := by simp; omega
          simp only [h2']
          simp [h0, h1.1, h1.2]
      · have h1' : (decide (-12 ≤ t.lit) && decide (t.lit ≤ 12)) = false := by simp; omega
        simp only [Bool.and_assoc, h1']
        simp [h0]
    rw [e, okTerms]
    cases okT t && decide (b < absI t.lit) with
    | true => simpa using h
    | false => rfl
theorem i_valid (c : Con) : i_ConstraintValid c = some (okCon c) := by
  unfold i_ConstraintValid okCon
  obtain ⟨b', h⟩ := i_valid_loop c.terms 0 0
  rw [h]
  cases okTerms 0 c.terms <;> simp [i_within, okB]
theorem s_abs (n : Int) (h1 : -9223372036854775807 ≤ n) (h2 : n ≤ 9223372036854775807) : s_l1Abs n = some (absI n) := by
  unfold s_l1Abs absI
  by_cases h : n < 0
  · rw [if_pos (by simpa using h), i64_id (by omega) (by omega)]; congr 1; omega
  · rw [if_neg (by simpa using h)]; congr 1; omega
theorem okT_lit {t : Term} (h : okT t = true) : t.lit ≠ 0 ∧ -12 ≤ t.lit ∧ t.lit ≤ 12 ∧ 1 ≤ t.coef ∧ t.coef ≤ 1000 := by
  unfold okT at h
  simp at h
  exact ⟨h.1.1.1, h.1.1.2, h.1.2, h.2.1, h.2.2⟩
theorem s_valid_loop (c : Con) (hl : c.terms.length ≤ ML) : ∀ (ts : List Term) (i : Nat) (b : Int), c.terms.drop i = ts → (i = 0 ∧ b = 0 ∨ ∃ t, 0 < i ∧ c.terms[i - 1]? = some t ∧ okT t = true ∧ b = absI t.lit) →
    rangeL (s_ConstraintValid_b1 c) ts i () = some (if okTerms b ts then .nx () else .out false)
  | [], i, b, _, _ => rfl
  | t :: ts, i, b, hd, hb => by
    show (s_ConstraintValid_b1 c i t ()).bind _ = _
    have e : s_ConstraintValid_b1 c i t () = some (if okT t && decide (b < absI t.lit) then .cont () else .out false) := by
      unfold s_ConstraintValid_b1 s_l1Lit
      by_cases hk : okT t = true
      · obtain ⟨h0, h1, h2, h3, h4⟩ := okT_lit hk
        have e1 : ((!((t.lit != 0) && decide (t.lit ≥ -12) && decide (t.lit ≤ 12)) || decide (t.coef < 1)) || decide (t.coef > 1000)) = false := by simp; omega
        simp only [Option.bind_some, e1, hk]
        have hpos : 0 < absI t.lit := by unfold absI; omega
        rcases hb with ⟨rfl, rfl⟩ | ⟨p, hi, hp, hpk, rfl⟩
        · simp [hpos]
        · obtain ⟨q0, q1, q2, _, _⟩ := okT_lit hpk
          have hil := (List.getElem?_eq_some_iff.1 hp).1
          unfold ML at hl
          have hi2 : decide ((i : Int) > 0) = true := by simpa using hi
          have e2 : idx c.terms (i64 ((i : Int) - 1)) = some p := by
            rw [i64_id (by omega) (by omega), show (i : Int) - 1 = ((i - 1 : Nat) : Int) by omega, idx_nat, hp]
          simp only [hi2, e2, Option.bind_some, s_abs p.lit (by omega) (by omega), s_abs t.lit (by omega) (by omega)]
          by_cases h5 : absI p.lit < absI t.lit
          · have : ¬ absI p.lit ≥ absI t.lit := by omega
            simp [h5, this]
          · have : absI p.lit ≥ absI t.lit := by omega
            simp [h5, this]
      · have hk' : okT t = false := by simpa using hk
        have e1 : ((!((t.lit != 0) && decide (t.lit ≥ -12) && decide (t.lit ≤ 12)) || decide (t.coef < 1)) || decide (t.coef > 1000)) = true := by
          cases hx : ((!((t.lit != 0) && decide (t.lit ≥ -12) && decide (t.lit ≤ 12)) || decide (t.coef < 1)) || decide (t.coef > 1000)) with
          | true => rfl
          | false =>
            exfalso
            apply hk
            unfold okT
            simp at hx ⊢
            omega
        simp only [Option.bind_some, e1, hk']
        rfl
    rw [e, okTerms]
    cases hok : okT t && decide (b < absI t.lit) with
    | true =>
      rw [Bool.and_eq_true] at hok
      simpa using s_valid_loop c hl ts (i + 1) (absI t.lit) (drop_next hd) (.inr ⟨t, by omega, by have := drop_idx hd; rw [idx_nat] at this; simpa using this, hok.1, rfl⟩)
    | false => rfl
theorem s_valid (c : Con) (hl : c.terms.length ≤ ML) : s_ConstraintValid c = some (okCon c) := by
  unfold s_ConstraintValid okCon
  rw [s_valid_loop c hl c.terms 0 0 rfl (.inl ⟨rfl, rfl⟩)]
  cases okTerms 0 c.terms <;> simp [okB]
end Go.L
namespace Go.L
open Go Go.E
set_option linter.unusedVariables false
set_option linter.unusedSimpArgs false
set_option maxRecDepth 100000
theorem okTerms_len : ∀ (ts : List Term) (b : Int), 0 ≤ b → okTerms b ts = true → (ts.length : Int) + b ≤ 12 ∨ ts = []
  | [], _, _, _ => .inr rfl
  | t :: ts, b, hb, h => by
    rw [okTerms, Bool.and_eq_true, Bool.and_eq_true] at h
    obtain ⟨⟨h1, h2⟩, h3⟩ := h
    obtain ⟨h0, l1, l2, _, _⟩ := okT_lit h1
    have h2 := of_decide_eq_true h2
    have ha : absI t.lit ≤ 12 := by unfold absI; omega
    left
    rcases okTerms_len ts (absI t.lit) (by omega) h3 with h | h
    · simp; omega
    · subst h; simp; omega
theorem okTerms_all : ∀ (ts : List Term) (b : Int), okTerms b ts = true → ∀ t ∈ ts, okT t = true
  | [], _, _, t, ht => by cases ht
  | t :: ts, b, h, u, hu => by
    rw [okTerms, Bool.and_eq_true, Bool.and_eq_true] at h
    rcases List.mem_cons.1 hu with rfl | hu
    · exact h.1.1
    · exact okTerms_all ts _ h.2 u hu
theorem okCon_parts {c : Con} (h : okCon c = true) : okTerms 0 c.terms = true ∧ c.terms.length ≤ 12 ∧ (∀ t ∈ c.terms, okT t = true) ∧ 0 ≤ c.bound ∧ c.bound ≤ 20000 := by
  unfold okCon okB at h
  simp at h
  refine ⟨h.1, ?_, okTerms_all _ _ h.1, h.2.1, h.2.2⟩
  rcases okTerms_len _ _ (Int.le_refl 0) h.1 with h | h
  · omega
  · rw [h]; simp
def totT (ts : List Term) : Int := ts.foldl (fun n t => n + t.coef) 0
theorem totT_snoc (ts : List Term) (t : Term) : totT (ts ++ [t]) = totT ts + t.coef := by simp [totT, List.foldl_append]
theorem totT_bound : ∀ (ts : List Term), (∀ t ∈ ts, okT t = true) → (ts.length : Int) ≤ totT ts ∧ totT ts ≤ 1000 * ts.length := by
  intro ts
  have key : ∀ (ts : List Term) (n : Int), (∀ t ∈ ts, okT t = true) → n + ts.length ≤ ts.foldl (fun n t => n + t.coef) n ∧ ts.foldl (fun n t => n + t.coef) n ≤ n + 1000 * ts.length := by
    intro ts
    induction ts with
    | nil => intro n _; simp
    | cons t ts ih =>
      intro n h
      obtain ⟨_, _, _, h3, h4⟩ := okT_lit (h t (by simp))
      have := ih (n + t.coef) fun u hu => h u (by simp [hu])
      simp only [List.foldl_cons, List.length_cons]
      omega
  intro h
  have := key ts 0 h
  unfold totT
  omega
theorem tot_loop {τ : Type} {b : Nat → Term → Int → Option (Lo Int τ)} (hb : ∀ i t n, b i t n = some (.cont (i64 (n + t.coef)))) (ts : List Term) (h : ∀ t ∈ ts, okT t = true) (hl : ts.length ≤ 12) :
    rangeL b ts 0 0 = some (.nx (totT ts)) := by
  have := range_to (b := b) (fun i => totT (ts.take i)) ts (by
    intro i t ht
    have hi := (List.getElem?_eq_some_iff.1 ht).1
    have e : ts.take (i + 1) = ts.take i ++ [t] := by rw [List.take_add_one, ht]; rfl
    have h1 := totT_bound (ts.take (i + 1)) fun u hu => h u (List.mem_of_mem_take hu)
    have h2 : (ts.take (i + 1)).length ≤ 12 := by simp; omega
    rw [hb, e, totT_snoc] at *
    rw [i64_id (by omega) (by omega)])
  simpa [totT] using this
def tot (c : Con) : Int := totT c.terms
theorem s_total {c : Con} (h : okCon c = true) : s_l1Total c = some (tot c) := by
  obtain ⟨_, h2, h3, _⟩ := okCon_parts h
  unfold s_l1Total
  rw [tot_loop (b := s_l1Total_b1) (fun _ _ _ => rfl) c.terms h3 h2]
  rfl
def okProb (list : List Con) : Bool := list.all okCon && decide ((list.length : Int) ≤ 400)
theorem s_problem (list : List Con) (hl : ∀ c ∈ list, c.terms.length ≤ ML) : s_ProblemValid list = some (okProb list) := by
  unfold s_ProblemValid okProb
  rw [range_all okCon false list]
  · cases list.all okCon <;> simp
  · intro i c hc
    show (s_ConstraintValid c).bind _ = _
    rw [s_valid c (hl c (List.mem_of_getElem? hc)), Option.bind_some]
    cases okCon c <;> rfl
end Go.L
namespace Go.L
open Go Go.E
set_option linter.unusedVariables false
set_option linter.unusedSimpArgs false
set_option maxRecDepth 100000
def okP (p : List Int) : Prop := p.length = 12 ∧ ∀ x ∈ p, -1 ≤ x ∧ x ≤ 1
def stt (p : List Int) (l : Int) : Int := if l > 0 then p.getD (l - 1).toNat 0 else - p.getD (-l - 1).toNat 0
theorem okP_get {p : List Int} (hp : okP p) (k : Nat) (hk : k < 12) : p[k]? = some (p.getD k 0) ∧ -1 ≤ p.getD k 0 ∧ p.getD k 0 ≤ 1 := by
  have h : k < p.length := by rw [hp.1]; exact hk
  have e : p.getD k 0 = p[k] := by rw [List.getD_eq_getElem?_getD, List.getElem?_eq_getElem h]; rfl
  rw [e]
  exact ⟨List.getElem?_eq_getElem h, hp.2 _ (List.getElem_mem h)⟩
theorem idx_p {p : List Int} (hp : okP p) {k : Int} (h0 : 0 ≤ k) (h1 : k < 12) : idx p k = some (p.getD k.toNat 0) := by
  have := (okP_get hp k.toNat (by omega)).1
  obtain ⟨n, rfl⟩ : ∃ n : Nat, k = (n : Int) := ⟨k.toNat, by omega⟩
  rw [idx_nat]
  simpa using this
theorem s_state {p : List Int} (hp : okP p) {l : Int} (h0 : l ≠ 0) (h1 : -12 ≤ l) (h2 : l ≤ 12) : s_l3State p l = some (stt p l) := by
  unfold s_l3State stt
  by_cases h : l > 0
  · rw [if_pos (by simpa using h), if_pos h, i64_id (by omega) (by omega), idx_p hp (by omega) (by omega)]; rfl
  · have hr := (okP_get hp (-l - 1).toNat (by omega)).2
    rw [if_neg (by simpa using h), if_neg h, i64_id (n := -l) (by omega) (by omega), i64_id (n := -l - 1) (by omega) (by omega), idx_p hp (by omega) (by omega), Option.bind_some, i64_id (by omega) (by omega)]
end Go.L
namespace Go.L
open Go Go.E
set_option linter.unusedVariables false
set_option linter.unusedSimpArgs false
set_option maxRecDepth 100000
def keepT (p : List Int) (ts : List Term) : Int := ts.foldl (fun n t => if stt p t.lit ≥ 0 then n + t.coef else n) 0
def slackC (c : Con) (p : List Int) : Int := -c.bound + keepT p c.terms
theorem keepT_snoc (p : List Int) (ts : List Term) (t : Term) : keepT p (ts ++ [t]) = if stt p t.lit ≥ 0 then keepT p ts + t.coef else keepT p ts := by simp [keepT, List.foldl_append]
theorem keepT_bound (p : List Int) : ∀ (ts : List Term), (∀ t ∈ ts, okT t = true) → 0 ≤ keepT p ts ∧ keepT p ts ≤ 1000 * ts.length := by
  intro ts
  have key : ∀ (ts : List Term) (n : Int), (∀ t ∈ ts, okT t = true) → n ≤ ts.foldl (fun n t => if stt p t.lit ≥ 0 then n + t.coef else n) n ∧ ts.foldl (fun n t => if stt p t.lit ≥ 0 then n + t.coef else n) n ≤ n + 1000 * ts.length := by
    intro ts
    induction ts with
    | nil => intro n _; simp
    | cons t ts ih =>
      intro n h
      obtain ⟨_, _, _, h3, h4⟩ := okT_lit (h t (by simp))
      simp only [List.foldl_cons, List.length_cons]
      split
      · have := ih (n + t.coef) fun u hu => h u (by simp [hu])
        omega
      · have := ih n fun u hu => h u (by simp [hu])
        omega
  intro h
  have := key ts 0 h
  unfold keepT
  omega
theorem slack_loop {τ : Type} {p : List Int} {b : Nat → Term → Int → Option (Lo Int τ)} (c : Con) (h : okCon c = true)
    (hb : ∀ i t n, okT t = true → b i t n = some (.cont (if stt p t.lit ≥ 0 then i64 (n + t.coef) else n))) :
    rangeL b c.terms 0 (i64 (-c.bound)) = some (.nx (slackC c p)) := by
  obtain ⟨_, h2, h3, h4, h5⟩ := okCon_parts h
  have := range_to (b := b) (fun i => -c.bound + keepT p (c.terms.take i)) c.terms (by
    intro i t ht
    have hi := (List.getElem?_eq_some_iff.1 ht).1
    have e : c.terms.take (i + 1) = c.terms.take i ++ [t] := by rw [List.take_add_one, ht]; rfl
    have h1 := keepT_bound p (c.terms.take i) fun u hu => h3 u (List.mem_of_mem_take hu)
    have hl : (c.terms.take i).length ≤ 12 := by simp; omega
    have hk := h3 t (List.mem_of_getElem? ht)
    obtain ⟨_, _, _, q1, q2⟩ := okT_lit hk
    rw [hb _ _ _ hk, e, keepT_snoc]
    split
    · rw [i64_id (by omega) (by omega)]; congr 2; omega
    · rfl)
  rw [i64_id (by omega) (by omega)]
  simpa [keepT, slackC] using this
theorem s_slack {c : Con} (h : okCon c = true) {p : List Int} (hp : okP p) : s_l3Slack c p = some (slackC c p) := by
  unfold s_l3Slack
  rw [slack_loop (b := s_l3Slack_b1 p) (p := p) c h fun i t n hk => by
    obtain ⟨h0, h1, h2, _, _⟩ := okT_lit hk
    show (s_l3State p t.lit).bind _ = _
    rw [s_state hp h0 h1 h2, Option.bind_some]
    by_cases hs : stt p t.lit ≥ 0 <;> simp [hs]]
  rfl
end Go.L
namespace Go.L
open Go Go.E
set_option linter.unusedVariables false
set_option linter.unusedSimpArgs false
set_option maxRecDepth 100000
def impT (p : List Int) (sl : Int) (t : Term) : Bool := (stt p t.lit == 0) && decide (t.coef > sl)
def impL (p : List Int) (sl : Int) (ts : List Term) : List Int := (ts.filter (impT p sl)).map (·.lit)
theorem impL_snoc (p : List Int) (sl : Int) (ts : List Term) (t : Term) : impL p sl (ts ++ [t]) = if impT p sl t then impL p sl ts ++ [t.lit] else impL p sl ts := by
  unfold impL
  rw [List.filter_append, List.map_append]
  cases h : impT p sl t <;> simp [h]
theorem impL_len (p : List Int) (sl : Int) (ts : List Term) : (impL p sl ts).length ≤ ts.length := by
  unfold impL
  rw [List.length_map]
  exact List.length_filter_le _ _
theorem s_implied {c : Con} (h : okCon c = true) {p : List Int} (hp : okP p) (hs : 0 ≤ slackC c p) (fu : Nat) (hf : FU ≤ fu) : s_l3Implied fu c p = some (impL p (slackC c p) c.terms) := by
  obtain ⟨_, h2, h3, _, _⟩ := okCon_parts h
  unfold s_l3Implied
  rw [s_slack h hp, Option.bind_some]
  obtain ⟨j, hj, hQ⟩ := while_inv (b := s_l3Implied_b1 c p (slackC c p)) (fun n (s : List Int × Int) => ∃ i : Nat, s.2 = (i : Int) ∧ i + n = c.terms.length ∧ s.1 = impL p (slackC c p) (c.terms.take i))
    (fun j => ∃ k, j = .nx (impL p (slackC c p) c.terms, k)) (fun n s hI => by
      obtain ⟨out, k⟩ := s
      obtain ⟨i, hk, hi, ho⟩ := hI
      simp only at hk ho
      subst hk ho
      cases n with
      | zero =>
        refine ⟨.brk (impL p (slackC c p) (c.terms.take i), (i : Int)), ?_, ?_⟩
        · rw [s_l3Implied_b1, if_neg (by simp; omega)]
        · have : i = c.terms.length := by omega
          exact ⟨(i : Int), by rw [this, List.take_length]⟩
      | succ n =>
        have hil : i < c.terms.length := by omega
        have ht : c.terms[i]? = some c.terms[i] := List.getElem?_eq_getElem hil
        have e : c.terms.take (i + 1) = c.terms.take i ++ [c.terms[i]] := by rw [List.take_add_one, ht]; rfl
        have hk := h3 _ (List.getElem_mem hil)
        obtain ⟨h0, h1, h2', _, _⟩ := okT_lit hk
        have hl := impL_len p (slackC c p) (c.terms.take i)
        have hl2 : (c.terms.take i).length ≤ 12 := by simp; omega
        refine ⟨.cont (impL p (slackC c p) (c.terms.take (i + 1)), ((i + 1 : Nat) : Int)), ?_, n, by omega, i + 1, rfl, by omega, rfl⟩
        rw [s_l3Implied_b1, if_pos (by simp; omega), idx_nat, ht, Option.bind_some, s_state hp h0 h1 h2', Option.bind_some, e, impL_snoc, app_le (by simp; omega), i64_id (by omega) (by omega)]
        unfold impT
        cases hq : (stt p c.terms[i].lit == 0) && decide (c.terms[i].coef > slackC c p) <;> simp)
    fu c.terms.length ([], 0) ⟨0, rfl, by omega, rfl⟩ (by unfold FU at hf; omega)
  rw [hj]
  obtain ⟨k, rfl⟩ := hQ
  rfl
end Go.L
namespace Go.L
open Go Go.E
set_option linter.unusedVariables false
set_option linter.unusedSimpArgs false
set_option maxRecDepth 100000
def asg (p : List Int) (l : Int) : List Int := if l > 0 then p.set (l - 1).toNat 1 else p.set (-l - 1).toNat (-1)
theorem asg_ok {p : List Int} (hp : okP p) (l : Int) : okP (asg p l) := by
  unfold asg
  split
  all_goals
    refine ⟨by rw [List.length_set]; exact hp.1, fun x hx => ?_⟩
    rcases List.mem_or_eq_of_mem_set hx with h | h
    · exact hp.2 x h
    · subst h; omega
theorem s_asg {p : List Int} (hp : okP p) {l : Int} (h0 : l ≠ 0) (h1 : -12 ≤ l) (h2 : l ≤ 12) : s_l3Assign p l = some (asg p l) := by
  unfold s_l3Assign asg
  by_cases h : l > 0
  · rw [if_pos (by simpa using h), if_pos h, i64_id (by omega) (by omega), idx_p hp (by omega) (by omega)]; rfl
  · rw [if_neg (by simpa using h), if_neg h, i64_id (n := -l) (by omega) (by omega), i64_id (n := -l - 1) (by omega) (by omega), idx_p hp (by omega) (by omega)]; rfl
def lit12 (l : Int) : Prop := l ≠ 0 ∧ -12 ≤ l ∧ l ≤ 12
def asgL (p : List Int) (ls : List Int) : List Int := ls.foldl asg p
theorem asgL_ok : ∀ (ls : List Int) {p : List Int}, okP p → okP (asgL p ls)
  | [], _, hp => hp
  | l :: ls, _, hp => asgL_ok ls (asg_ok hp l)
theorem asg_loop {τ : Type} {b : Nat → Int → (List Int × Bool) → Option (Lo (List Int × Bool) τ)} (hb : ∀ i l p m, okP p → lit12 l → b i l (p, m) = some (.cont (asg p l, true))) :
    ∀ (ls : List Int) (i : Nat) (p : List Int) (m : Bool), okP p → (∀ l ∈ ls, lit12 l) → rangeL b ls i (p, m) = some (.nx (asgL p ls, m || !ls.isEmpty))
  | [], i, p, m, _, _ => by simp [rangeL, asgL]
  | l :: ls, i, p, m, hp, hl => by
    show (b i l (p, m)).bind _ = _
    rw [hb i l p m hp (hl l (by simp))]
    show rangeL b ls (i + 1) (asg p l, true) = _
    rw [asg_loop hb ls (i + 1) _ true (asg_ok hp l) fun x hx => hl x (by simp [hx])]
    simp [asgL]
theorem s_asgs {p : List Int} (hp : okP p) (m : Bool) (ls : List Int) (hl : ∀ l ∈ ls, lit12 l) : rangeL s_l3Propagate_b3 ls 0 (p, m) = some (.nx (asgL p ls, m || !ls.isEmpty)) :=
  asg_loop (fun i l p m hp h => by show (s_l3Assign p l).bind _ = _; rw [s_asg hp h.1 h.2.1 h.2.2]; rfl) ls 0 p m hp hl
end Go.L
namespace Go.L
open Go Go.E
set_option linter.unusedVariables false
set_option linter.unusedSimpArgs false
set_option maxRecDepth 100000
def sumR (f : Term → Int) : List Term → Int
  | [] => 0
  | t :: ts => f t + sumR f ts
theorem okT_lit12 {t : Term} (h : okT t = true) : lit12 t.lit := ⟨(okT_lit h).1, (okT_lit h).2.1, (okT_lit h).2.2.1⟩
theorem impL_mem {p : List Int} {sl : Int} {ts : List Term} {l : Int} (h : l ∈ impL p sl ts) : ∃ t ∈ ts, t.lit = l ∧ stt p l = 0 ∧ t.coef > sl := by
  unfold impL at h
  obtain ⟨t, ht, rfl⟩ := List.mem_map.1 h
  rw [List.mem_filter] at ht
  have := ht.2
  unfold impT at this
  simp at this
  exact ⟨t, ht.1, rfl, this.1, this.2⟩
inductive PR
  | conf (p : List Int) (i : Nat)
  | go (p : List Int) (m : Bool)
def pass : List Con → Nat → List Int → Bool → PR
  | [], _, p, m => .go p m
  | c :: cs, i, p, m => if slackC c p < 0 then .conf p i else pass cs (i + 1) (asgL p (impL p (slackC c p) c.terms)) (m || !(impL p (slackC c p) c.terms).isEmpty)
def prop : Nat → List Con → List Int → List Int × Int
  | 0, _, p => (p, -1)
  | n + 1, cs, p => match pass cs 0 p false with
    | .conf p' i => (p', (i : Int))
    | .go p' m => if m then prop n cs p' else (p', -1)
def zer (p : List Int) : Nat := p.countP (· == 0)
theorem zer_set (p : List Int) (k : Nat) (x : Int) (hk : k < p.length) (hx : x ≠ 0) : zer (p.set k x) + (if p.getD k 0 = 0 then 1 else 0) = zer p := by
  unfold zer
  induction p generalizing k with
  | nil => simp at hk
  | cons a p ih =>
    cases k with
    | zero => simp only [List.set_cons_zero, List.countP_cons, List.getD_cons_zero]; simp [hx]
    | succ k =>
      have := ih k (by simpa using hk)
      simp only [List.set_cons_succ, List.countP_cons, List.getD_cons_succ]
      omega
theorem zer_asg {p : List Int} (hp : okP p) {l : Int} (hl : lit12 l) : zer (asg p l) ≤ zer p ∧ (stt p l = 0 → zer (asg p l) < zer p) := by
  obtain ⟨h0, h1, h2⟩ := hl
  unfold asg stt
  split
  · have := zer_set p (l - 1).toNat 1 (by rw [hp.1]; omega) (by omega)
    constructor
    · omega
    · intro h; rw [if_pos h] at this; omega
  · have := zer_set p (-l - 1).toNat (-1) (by rw [hp.1]; omega) (by omega)
    constructor
    · omega
    · intro h; rw [if_pos (by omega)] at this; omega
theorem zer_asgL : ∀ (ls : List Int) {p : List Int}, okP p → (∀ l ∈ ls, lit12 l) → zer (asgL p ls) ≤ zer p
  | [], p, _, _ => Nat.le_refl _
  | l :: ls, p, hp, h => Nat.le_trans (zer_asgL ls (asg_ok hp l) fun x hx => h x (by simp [hx])) (zer_asg hp (h l (by simp))).1
theorem impL_lit {p : List Int} {c : Con} (hc : okCon c = true) {sl : Int} : ∀ l ∈ impL p sl c.terms, lit12 l := by
  intro l hl
  obtain ⟨t, ht, rfl, _, _⟩ := impL_mem hl
  exact okT_lit12 ((okCon_parts hc).2.2.1 t ht)
theorem zer_imp {p : List Int} (hp : okP p) {c : Con} (hc : okCon c = true) {sl : Int} (hn : impL p sl c.terms ≠ []) : zer (asgL p (impL p sl c.terms)) < zer p := by
  have hl := impL_lit (p := p) hc (sl := sl)
  cases h : impL p sl c.terms with
  | nil => exact absurd h hn
  | cons l ls =>
    rw [h] at hl
    obtain ⟨t, ht, _, h0, _⟩ := impL_mem (l := l) (by rw [h]; simp)
    have := zer_asgL ls (asg_ok hp l) fun x hx => hl x (by simp [hx])
    have := (zer_asg hp (hl l (by simp))).2 h0
    show zer (asgL (asg p l) ls) < _
    omega
theorem pass_zer : ∀ (cs : List Con) (i : Nat) (p : List Int) (m : Bool), okP p → (∀ c ∈ cs, okCon c = true) → ∀ p' m', pass cs i p m = .go p' m' → okP p' ∧ zer p' ≤ zer p ∧ (m' = true → m = true ∨ zer p' < zer p)
  | [], i, p, m, hp, _, p', m', h => by
    cases h
    exact ⟨hp, Nat.le_refl _, fun h => .inl h⟩
  | c :: cs, i, p, m, hp, hc, p', m', h => by
    rw [pass] at h
    split at h
    · cases h
    · have hcc := hc c (by simp)
      obtain ⟨g1, g2, g3⟩ := pass_zer cs _ _ _ (asgL_ok _ hp) (fun x hx => hc x (by simp [hx])) p' m' h
      have hz := zer_asgL (impL p (slackC c p) c.terms) hp (impL_lit hcc)
      refine ⟨g1, by omega, fun hm => ?_⟩
      rcases g3 hm with h1 | h1
      · rw [Bool.or_eq_true] at h1
        rcases h1 with h1 | h1
        · exact .inl h1
        · refine .inr ?_
          have := zer_imp hp hcc (sl := slackC c p) (by intro e; rw [e] at h1; simp at h1)
          omega
      · exact .inr (by omega)
end Go.L
namespace Go.L
open Go Go.E
set_option linter.unusedVariables false
set_option linter.unusedSimpArgs false
set_option maxRecDepth 100000
def trueL (v : List Bool) (l : Int) : Bool := if l > 0 then v.getD (l - 1).toNat false else !(v.getD (-l - 1).toNat false)
def sumV (v : List Bool) (ts : List Term) : Int := sumR (fun t => if trueL v t.lit then t.coef else 0) ts
def evalC (c : Con) (v : List Bool) : Bool := decide (sumV v c.terms ≥ c.bound)
def negC (c : Con) : Con := ⟨c.terms.map fun t => ⟨t.coef, -t.lit⟩, max 0 (tot c - c.bound + 1)⟩
theorem absI_neg (n : Int) : absI (-n) = absI n := by unfold absI; omega
theorem okT_neg {t : Term} (h : okT t = true) : okT ⟨t.coef, -t.lit⟩ = true := by
  obtain ⟨h0, h1, h2, h3, h4⟩ := okT_lit h
  unfold okT
  simp
  omega
theorem okTerms_neg : ∀ (ts : List Term) (b : Int), okTerms b ts = true → okTerms b (ts.map fun t => ⟨t.coef, -t.lit⟩) = true
  | [], _, _ => rfl
  | t :: ts, b, h => by
    rw [okTerms, Bool.and_eq_true, Bool.and_eq_true] at h
    rw [List.map_cons, okTerms, Bool.and_eq_true, Bool.and_eq_true]
    refine ⟨⟨okT_neg h.1.1, ?_⟩, ?_⟩
    · rw [absI_neg]; exact h.1.2
    · rw [absI_neg]; exact okTerms_neg ts _ h.2
theorem okCon_tot {c : Con} (h : okCon c = true) : 0 ≤ tot c ∧ tot c ≤ 12000 := by
  obtain ⟨_, h2, h3, _, _⟩ := okCon_parts h
  have := totT_bound c.terms h3
  unfold tot
  omega
theorem negC_ok {c : Con} (h : okCon c = true) : okCon (negC c) = true := by
  have ht := okCon_tot h
  obtain ⟨h1, _, _, h4, h5⟩ := okCon_parts h
  unfold okCon okB negC
  simp only [okTerms_neg _ _ h1]
  simp
  omega
def zeroP : List Int := List.replicate 12 0
theorem zeroP_ok : okP zeroP := by
  refine ⟨rfl, fun x hx => ?_⟩
  rw [List.eq_of_mem_replicate hx]; omega
def rupB (list : List Con) (c : Con) : Bool := decide (0 ≤ (prop 13 (list ++ [negC c]) zeroP).2)
end Go.L
namespace Go.L
open Go Go.E
set_option linter.unusedVariables false
set_option linter.unusedSimpArgs false
set_option maxRecDepth 100000
theorem prop_at : ∀ (n : Nat) (cs : List Con) (p : List Int) (p' : List Int) (a : Int), prop n cs p = (p', a) → a = -1 ∨ 0 ≤ a
  | 0, cs, p, p', a, h => by rw [prop] at h; simp at h; exact .inl h.2.symm
  | n + 1, cs, p, p', a, h => by
    rw [prop] at h
    split at h
    · simp at h; omega
    · split at h
      · exact prop_at n _ _ _ _ h
      · simp at h; exact .inl h.2.symm
theorem prop_while {τ : Type} {b : List Int × Bool → Option (Lo (List Int × Bool) τ)} (cs : List Con) (hc : ∀ c ∈ cs, okCon c = true) (res : List Int → Int → τ)
    (hb1 : ∀ p, okP p → b (p, true) = some (match pass cs 0 p false with | .conf p' i => .out (res p' (i : Int)) | .go p' m => .cont (p', m))) (hb2 : ∀ p, b (p, false) = some (.brk (p, false))) :
    ∀ (n k : Nat) (p : List Int), okP p → zer p < n → n < k → whileL b k (p, true) = some (if 0 ≤ (prop n cs p).2 then .out (res (prop n cs p).1 (prop n cs p).2) else .nx ((prop n cs p).1, false))
  | 0, _, p, _, hz, _ => by omega
  | n + 1, 0, p, _, _, hk => by omega
  | n + 1, 1, p, _, _, hk => by omega
  | n + 1, k + 2, p, hp, hz, hk => by
    show (b (p, true)).bind _ = _
    rw [hb1 p hp, prop]
    cases hpa : pass cs 0 p false with
    | conf p1 i => simp
    | go p1 m1 =>
      obtain ⟨g1, g2, g3⟩ := pass_zer cs 0 p false hp hc p1 m1 hpa
      cases m1 with
      | true =>
        have hz1 : zer p1 < n := by
          rcases g3 rfl with h | h
          · cases h
          · omega
        simpa using prop_while cs hc res hb1 hb2 n (k + 1) p1 g1 hz1 (by omega)
      | false =>
        show (b (p1, false)).bind _ = _
        rw [hb2]
        simp
theorem s_pass (fu : Nat) (hf : FU ≤ fu) : ∀ (cs : List Con) (i : Nat) (p : List Int) (m : Bool), okP p → (∀ c ∈ cs, okCon c = true) →
    rangeL (s_l3Propagate_b2 fu) cs i (p, m) = some (match pass cs i p m with | .conf p' j => .out (.out ((j : Int), p')) | .go p' m' => .nx (p', m'))
  | [], i, p, m, _, _ => rfl
  | c :: cs, i, p, m, hp, hc => by
    have hcc := hc c (by simp)
    show (s_l3Propagate_b2 fu i c (p, m)).bind _ = _
    rw [s_l3Propagate_b2, s_slack hcc hp, Option.bind_some, pass]
    by_cases h : slackC c p < 0
    · rw [if_pos h, if_pos (by simpa using h)]; rfl
    · rw [if_neg h, if_neg (by simpa using h), s_implied hcc hp (by omega) fu hf, Option.bind_some, s_asgs hp m _ (impL_lit hcc), Option.bind_some]
      exact s_pass fu hf cs (i + 1) _ _ (asgL_ok _ hp) fun x hx => hc x (by simp [hx])
theorem zer_le {p : List Int} (hp : okP p) : zer p ≤ 12 := by
  have := List.countP_le_length (p := (· == 0)) (l := p)
  rw [hp.1] at this
  exact this
theorem s_prop (fu : Nat) (hf : FU ≤ fu) {cs : List Con} (hc : ∀ c ∈ cs, okCon c = true) {p : List Int} (hp : okP p) : s_l3Propagate fu cs p = some ((prop 13 cs p).2, (prop 13 cs p).1) := by
  have hz := zer_le hp
  unfold s_l3Propagate
  rw [prop_while (b := s_l3Propagate_b1 fu cs) cs hc (fun p a => (a, p)) (fun p hp => by
    rw [s_l3Propagate_b1, if_pos rfl, s_pass fu hf cs 0 p false hp hc]
    cases pass cs 0 p false <;> rfl) (fun p => by rw [s_l3Propagate_b1]; rfl) 13 fu p hp (by omega) (by unfold FU at hf; omega)]
  generalize hr : prop 13 cs p = r
  obtain ⟨p', a⟩ := r
  by_cases h : 0 ≤ a
  · simp [h]
  · have := prop_at _ _ _ _ _ hr
    obtain rfl : a = -1 := by omega
    simp
theorem neg_loop {τ : Type} {b : Nat → Term → List Term → Option (Lo (List Term) τ)} {c : Con} (hc : okCon c = true)
    (hb : ∀ i t out, b i t out = (app out ([({ coef := t.coef, lit := i64 (-t.lit) } : Term)])).bind fun x => some (.cont x)) : rangeL b c.terms 0 [] = some (.nx (negC c).terms) := by
  obtain ⟨_, h2, h3, _, _⟩ := okCon_parts hc
  refine range_map (fun t => (⟨t.coef, -t.lit⟩ : Term)) c.terms fun i t out ht hl => ?_
  obtain ⟨_, h1, h2', _, _⟩ := okT_lit (h3 t (List.mem_of_getElem? ht))
  have hi := (List.getElem?_eq_some_iff.1 ht).1
  rw [hb, app_le (by simp; omega), Option.bind_some, i64_id (n := -t.lit) (by omega) (by omega)]
theorem s_neg {c : Con} (hc : okCon c = true) (hl : c.terms.length ≤ ML) : s_NegateConstraint c = some (negC c, true) := by
  have ht := okCon_tot hc
  obtain ⟨_, _, _, h4, h5⟩ := okCon_parts hc
  unfold s_NegateConstraint
  rw [s_valid c hl, Option.bind_some, hc, s_total hc]
  simp only [Bool.not_true, Bool.false_eq_true, if_false, Option.bind_some]
  rw [neg_loop hc (b := s_NegateConstraint_b1) fun _ _ _ => rfl]
  rw [i64_id (n := tot c - c.bound) (by omega) (by omega), i64_id (by omega) (by omega)]
  simp only [Option.bind_some]
  by_cases h : tot c - c.bound + 1 < 0
  · simp [h, negC]; omega
  · simp [h, negC]; omega
theorem mkZero : mkN 12 0 = some zeroP := mkN_le (n := 12) 0 (by omega)
theorem rup_okA {list : List Con} (hl : ∀ x ∈ list, okCon x = true) {c : Con} (hc : okCon c = true) : ∀ x ∈ list ++ [negC c], okCon x = true := fun x hx => by
  rcases List.mem_append.1 hx with hx | hx
  · exact hl x hx
  · rw [List.mem_singleton] at hx; subst hx; exact negC_ok hc
theorem s_rup (fu : Nat) (hf : FU ≤ fu) {list : List Con} (hl : ∀ x ∈ list, okCon x = true) (hn : list.length ≤ 2000000) {c : Con} (hc : okCon c = true) : s_l3Rup fu list c = some (rupB list c) := by
  unfold s_l3Rup
  have := (okCon_parts hc).2.1
  rw [s_neg hc (by unfold ML; omega), Option.bind_some, app_le (by simp; omega), Option.bind_some, app_le (by simp; omega), Option.bind_some, mkZero, Option.bind_some, List.nil_append, s_prop fu hf (rup_okA hl hc) zeroP_ok]
  rfl
theorem okProb_parts {list : List Con} (h : okProb list = true) : (∀ x ∈ list, okCon x = true) ∧ list.length ≤ 400 := by
  unfold okProb at h
  simp at h
  exact ⟨h.1, by omega⟩
end Go.L
namespace Go.L
open Go Go.E
set_option linter.unusedVariables false
set_option linter.unusedSimpArgs false
set_option maxRecDepth 100000
theorem sumV_bound (v : List Bool) : ∀ (ts : List Term), (∀ t ∈ ts, okT t = true) → 0 ≤ sumV v ts ∧ sumV v ts ≤ 1000 * ts.length
  | [], _ => by simp [sumV, sumR]
  | t :: ts, h => by
    have := sumV_bound v ts fun u hu => h u (by simp [hu])
    obtain ⟨_, _, _, h3, h4⟩ := okT_lit (h t (by simp))
    unfold sumV at *
    simp only [sumR, List.length_cons]
    split <;> omega
end Go.L
namespace Go.L
open Go Go.E
set_option linter.unusedVariables false
set_option linter.unusedSimpArgs false
set_option maxRecDepth 100000
def So {α : Type} (x : Option α) (P : α → Prop) : Prop := ∃ a, x = some a ∧ P a
section
variable {α β σ τ : Type}
theorem so_some {a : α} {P : α → Prop} (h : P a) : So (some a) P := ⟨a, rfl, h⟩
theorem so_bind {x : Option α} {f : α → Option β} {P : α → Prop} {Q : β → Prop} (hx : So x P) (hf : ∀ a, P a → So (f a) Q) : So (x.bind f) Q := by
  obtain ⟨a, rfl, ha⟩ := hx
  exact hf a ha
theorem so_ite {c : Prop} [Decidable c] {x y : Option α} {P : α → Prop} (h1 : c → So x P) (h2 : ¬ c → So y P) : So (if c then x else y) P := by
  split
  · exact h1 ‹_›
  · exact h2 ‹_›
theorem so_app {xs ys : List α} (h : xs.length + ys.length ≤ 4294967296) {P : List α → Prop} (hp : P (xs ++ ys)) : So (app xs ys) P := ⟨_, app_le h, hp⟩
theorem so_idx {xs : List α} {k : Int} {P : α → Prop} (h0 : 0 ≤ k) (h1 : k < (xs.length : Int)) (h : ∀ x ∈ xs, P x) : So (idx xs k) P := by
  have hl : k.toNat < xs.length := by omega
  exact ⟨_, idx_get h0 hl, h _ (List.getElem_mem hl)⟩
theorem so_range {b : Nat → α → σ → Option (Lo σ τ)} (I : Nat → σ → Prop) (xs : List α) (s : σ) (h0 : I 0 s) (h : ∀ i x s, xs[i]? = some x → I i s → So (b i x s) fun o => ∃ s', o = .cont s' ∧ I (i + 1) s') :
    So (rangeL b xs 0 s) fun j => ∃ s', j = .nx s' ∧ I xs.length s' := by
  obtain ⟨j, hj, hQ⟩ := range_inv (b := b) xs I (fun j => ∃ s', j = .nx s' ∧ I xs.length s') (fun s hs => ⟨s, rfl, hs⟩) (fun i x s hx hI => by
    obtain ⟨o, ho, s', rfl, hs'⟩ := h i x s hx hI
    exact ⟨_, ho, hs'⟩) s h0
  exact ⟨j, hj, hQ⟩
theorem so_while {b : σ → Option (Lo σ τ)} (I : Nat → σ → Prop) (Q : σ → Prop) (n : Nat) (s : σ) (fu : Nat) (hf : n < fu) (h0 : I n s)
    (h : ∀ n s, I n s → So (b s) fun o => (∃ s' m, o = .cont s' ∧ m < n ∧ I m s') ∨ (∃ s', o = .brk s' ∧ Q s')) : So (whileL b fu s) fun j => ∃ s', j = .nx s' ∧ Q s' := by
  obtain ⟨j, hj, hQ⟩ := while_inv (b := b) I (fun j => ∃ s', j = .nx s' ∧ Q s') (fun n s hI => by
    obtain ⟨o, ho, ⟨s', m, rfl, hm, hs'⟩ | ⟨s', rfl, hs'⟩⟩ := h n s hI
    · exact ⟨_, ho, m, hm, hs'⟩
    · exact ⟨_, ho, s', rfl, hs'⟩) fu n s h0 hf
  exact ⟨j, hj, hQ⟩
end
def PM : Int := 1000000
theorem xor_nonneg {m n : Int} (hm : 0 ≤ m) (hm2 : m ≤ 9223372036854775807) (hn : 0 ≤ n) (hn2 : n ≤ 9223372036854775807) : 0 ≤ xorI .i64 m n := by
  obtain ⟨a, rfl⟩ := Int.eq_ofNat_of_zero_le hm
  obtain ⟨b, rfl⟩ := Int.eq_ofNat_of_zero_le hn
  have hx : a ^^^ b < 2 ^ 63 := Nat.xor_lt_two_pow (by omega) (by omega)
  have h1 : (BitVec.ofInt (IntKind.bits .i64) (a : Int) ^^^ BitVec.ofInt (IntKind.bits .i64) (b : Int)).toNat = a ^^^ b := by
    show (BitVec.ofInt 64 (a : Int) ^^^ BitVec.ofInt 64 (b : Int)).toNat = a ^^^ b
    rw [BitVec.toNat_xor, BitVec.toNat_ofInt, BitVec.toNat_ofInt]
    congr 1 <;> omega
  unfold xorI
  rw [h1]
  have : i64 ((a ^^^ b : Nat) : Int) = ((a ^^^ b : Nat) : Int) := i64_id (by omega) (by omega)
  show 0 ≤ i64 ((a ^^^ b : Nat) : Int)
  rw [this]
  omega
theorem pick_ok (r : Rd) (n : Int) (hb : r.b.length ≤ 2000) (h0 : 0 ≤ r.p) (h1 : r.p ≤ PM) : So (s_l17Rd_pick r n) fun o => o.2 = r.p + 1 ∧ 0 ≤ o.1 ∧ (1 ≤ n → o.1 < n) := by
  unfold PM at h1
  unfold s_l17Rd_pick
  have e1 : i64 (r.p + 1) = r.p + 1 := i64_id (by omega) (by omega)
  have e2 : i64 (r.p + 1 - 1) = r.p := by rw [i64_id (by omega) (by omega)]; omega
  rw [e1, e2]
  refine so_ite (fun h => so_some ⟨rfl, Int.le_refl _, fun h => by omega⟩) fun h => ?_
  simp only [Bool.or_eq_true, decide_eq_true_eq, beq_iff_eq, not_or] at h
  have hn : n ≠ 0 := by omega
  have hl : (r.b.length : Int) ≠ 0 := h.2
  refine so_ite (fun hc => ?_) fun hc => ?_
  · have hc := of_decide_eq_true hc
    refine so_bind (so_idx h0 hc fun x _ => trivial) fun x _ => ?_
    rw [if_neg hn]
    refine so_some ⟨rfl, ?_, fun _ => ?_⟩
    · have : i64 (x.toNat : Int) = x.toNat := i64_id (by omega) (by have := x.toNat_lt; omega)
      rw [this]; exact Int.tmod_nonneg _ (by omega)
    · exact Int.tmod_lt_of_pos _ (by omega)
  · rw [if_neg hl]
    have m0 : ∀ z : Int, 0 ≤ z → 0 ≤ Int.tmod z (r.b.length : Int) ∧ Int.tmod z (r.b.length : Int) < (r.b.length : Int) := fun z hz => ⟨Int.tmod_nonneg _ hz, Int.tmod_lt_of_pos _ (by omega)⟩
    have e3 : i64 (i64 (r.p * 7) + 3) = r.p * 7 + 3 := by rw [i64_id (n := r.p * 7) (by omega) (by omega), i64_id (by omega) (by omega)]
    refine so_bind (so_some (P := fun _ => True) trivial) fun _ _ => so_bind (so_idx (m0 _ h0).1 (m0 _ h0).2 fun x _ => trivial) fun x _ => so_bind (so_some (P := fun _ => True) trivial) fun _ _ => ?_
    rw [e3]
    refine so_bind (so_idx (m0 _ (by omega)).1 (m0 _ (by omega)).2 fun x _ => trivial) fun y _ => so_bind (so_some (P := fun _ => True) trivial) fun _ _ => ?_
    rw [if_neg hn]
    refine so_bind (so_some (P := fun _ => True) trivial) fun _ _ => so_some ⟨rfl, ?_, fun _ => Int.tmod_lt_of_pos _ (by omega)⟩
    refine Int.tmod_nonneg _ ?_
    have hx := x.toNat_lt
    have hy := y.toNat_lt
    have hq : 0 ≤ Int.tdiv r.p (r.b.length : Int) := Int.tdiv_nonneg h0 (by omega)
    have hq2 : Int.tdiv r.p (r.b.length : Int) ≤ r.p := Int.tdiv_le_self _ h0
    have f1 : i64 (x.toNat : Int) = x.toNat := i64_id (by omega) (by omega)
    have f2 : i64 (y.toNat : Int) = y.toNat := i64_id (by omega) (by omega)
    have f3 : i64 ((x.toNat : Int) * 131) = x.toNat * 131 := i64_id (by omega) (by omega)
    have f4 : i64 ((y.toNat : Int) * 1117) = y.toNat * 1117 := i64_id (by omega) (by omega)
    have f5 : i64 ((x.toNat : Int) * 131 + y.toNat * 1117) = x.toNat * 131 + y.toNat * 1117 := i64_id (by omega) (by omega)
    have f6 : i64 (r.p * 29) = r.p * 29 := i64_id (by omega) (by omega)
    have f7 : i64 ((x.toNat : Int) * 131 + y.toNat * 1117 + r.p * 29) = x.toNat * 131 + y.toNat * 1117 + r.p * 29 := i64_id (by omega) (by omega)
    have f8 : i64 (Int.tdiv r.p (r.b.length : Int)) = Int.tdiv r.p (r.b.length : Int) := i64_id (by omega) (by omega)
    have f9 : i64 (Int.tdiv r.p (r.b.length : Int) * 53) = Int.tdiv r.p (r.b.length : Int) * 53 := i64_id (by omega) (by omega)
    have fa : i64 ((x.toNat : Int) * 131 + y.toNat * 1117 + r.p * 29 + Int.tdiv r.p (r.b.length : Int) * 53) = x.toNat * 131 + y.toNat * 1117 + r.p * 29 + Int.tdiv r.p (r.b.length : Int) * 53 := i64_id (by omega) (by omega)
    rw [f1, f2, f3, f4, f5, f6, f7, f8, f9, fa]
    generalize hz : (x.toNat : Int) * 131 + y.toNat * 1117 + r.p * 29 + Int.tdiv r.p (r.b.length : Int) * 53 = z
    have z0 : 0 ≤ z := by omega
    have z1 : z ≤ 1000000000000 := by omega
    have d0 : 0 ≤ Int.tdiv z 64 := Int.tdiv_nonneg z0 (by omega)
    have d1 : Int.tdiv z 64 ≤ z := Int.tdiv_le_self _ z0
    rw [i64_id (n := Int.tdiv z 64) (by omega) (by omega)]
    exact xor_nonneg z0 (by omega) d0 (by omega)
theorem num_ok (r : Rd) (xs : List Int) (hx : xs ≠ []) (hb : r.b.length ≤ 2000) (h0 : 0 ≤ r.p) (h1 : r.p ≤ PM) : So (s_l17Rd_num r xs) fun o => o.2 = r.p + 1 ∧ o.1 ∈ xs := by
  unfold s_l17Rd_num
  have hl : 1 ≤ (xs.length : Int) := by have := List.length_pos_iff.2 hx; omega
  refine so_bind (pick_ok r _ hb h0 h1) fun a ⟨ha, hb0, hb1⟩ => ?_
  refine so_bind (so_idx (P := fun x => x ∈ xs) hb0 (hb1 hl) fun x hx => hx) fun x hx => so_some ⟨ha, hx⟩
theorem open_ok (code : List UInt8) : So (s_l17Open code) fun r => r.b.length ≤ 2000 ∧ r.p = 0 := by
  unfold s_l17Open
  refine so_bind (P := fun (c : List UInt8) => c.length ≤ 2000) (so_ite (fun h => ?_) fun h => so_some ?_) fun c hc => so_some ⟨hc, rfl⟩
  · have h := of_decide_eq_true h
    have h2 : sl code 0 2000 = some (code.take 2000) := sl_pre (i := 2000) (by omega)
    rw [h2]
    exact so_some (by rw [List.length_take]; omega)
  · simp only [decide_eq_true_eq] at h; omega
end Go.L
namespace Go.L
open Go Go.E
set_option linter.unusedSimpArgs false
set_option linter.unusedVariables false
set_option maxRecDepth 100000
theorem parse_val : ∀ (l : List UInt8) (a : Nat), (∀ b ∈ l, 48 ≤ b.toNat ∧ b.toNat ≤ 57) → val a l ≤ 1000000000000 → Go.Lib.parseUint10 a l = .ok (val a l)
  | [], a, _, _ => rfl
  | b :: l, a, h, hv => by
    have h1 := h b (by simp)
    have h2 : a * 10 + (b.toNat - 48) ≤ val a (b :: l) := val_ge l _
    rw [Go.Lib.parseUint10, if_pos h1, if_neg (by omega), if_neg (by omega)]
    exact parse_val l _ (fun x hx => h x (by simp [hx])) hv
theorem atoi_dec {n : Nat} (h : n ≤ 1000000000000) : Go.Lib.atoiAll (dec n) = .ok (n : Int) := by
  have hd := dec_digit n
  have hv := val_dec n
  have hp := dec_pos n
  cases hl : dec n with
  | nil => rw [hl] at hp; simp at hp
  | cons c r =>
    rw [hl] at hd hv
    have hc := hd c (by simp)
    unfold Go.Lib.atoiAll
    simp only
    rw [if_neg (by omega), Go.Lib.parseMag, if_neg (by simp), parse_val _ _ hd (by omega), hv]
    simp only
    rw [if_neg (by omega), if_neg (by omega), if_neg (by omega)]
def numI (l : List UInt8) : Int := if (atoiR (bs l) (Go.Lib.atoiAll l)).2 then 0 else (atoiR (bs l) (Go.Lib.atoiAll l)).1
theorem i_num {l : List UInt8} (h : l.length ≤ 1048576) : i_number (bs l) = some (numI l) := by
  unfold i_number strconv_Atoi
  rw [if_pos (by rw [bs_size]; omega), Option.bind_some, bs_list]
  unfold numI
  split <;> rfl
theorem numI_dec {n : Nat} (h : n ≤ 1000000000000) : numI (dec n) = (n : Int) := by
  unfold numI
  rw [atoi_dec h]
  rfl
theorem s_num_some {l : List UInt8} (h : l.length ≤ 1048576) : So (s_l17Num (bs l)) fun _ => True := by
  unfold s_l17Num
  refine so_bind (P := fun b2 => b2 = true → 1 ≤ l.length) (so_ite (fun hc => ?_) fun _ => so_some (by simp)) fun b2 hb2 => ?_
  · have hc := of_decide_eq_true hc
    rw [bs_size] at hc
    rw [sidx_bs]
    exact so_bind (so_idx (P := fun _ => True) (by omega) (by omega) fun _ _ => trivial) fun _ _ => so_some fun _ => by omega
  refine so_bind (P := fun s => ∃ q : List UInt8, s = bs q ∧ q.length ≤ 1048576) (so_ite (fun hc => ?_) fun _ => so_some ⟨l, rfl, h⟩) fun s ⟨q, hs, hq⟩ => ?_
  · have := hb2 hc
    rw [show ((1 : Int)) = ((1 : Nat) : Int) from rfl, ssl_from this]
    exact so_bind (so_some (P := fun s => s = bs (l.drop 1)) rfl) fun s hs => so_some ⟨_, hs, by simp; omega⟩
  subst hs
  rw [bs_size, sidx_bs]
  refine so_bind (P := fun _ => True) (so_ite (fun _ => so_some trivial) fun hc => ?_) fun b10 _ => so_ite (fun _ => so_some trivial) fun _ => ?_
  · simp only [Bool.or_eq_true, beq_iff_eq, decide_eq_true_eq, not_or] at hc
    exact so_bind (so_idx (P := fun _ => True) (by omega) (by omega) fun _ _ => trivial) fun _ _ => so_some trivial
  rw [cntF_nat (by omega)]
  refine so_bind (so_some (P := fun k => k = q.length) rfl) fun k hk => ?_
  subst hk
  have hloop : So (countL (s_l17Num_b1 (bs q)) q.length 0 0) fun _ => True := by
    refine count_inv (fun _ _ => True) (fun _ => True) q.length 0 (fun _ _ => trivial) (fun i s _ hi _ => ?_) 0 trivial
    unfold s_l17Num_b1
    rw [sidx_bs, idx_lt (by omega), Option.bind_some]
    split
    · exact ⟨_, rfl, trivial⟩
    · exact ⟨_, rfl, trivial⟩
  refine so_bind hloop fun j _ => ?_
  cases j with
  | out t => exact so_some trivial
  | nx n => exact so_bind (so_ite (P := fun _ => True) (fun _ => so_some trivial) fun _ => so_some trivial) fun _ _ => so_some trivial
noncomputable def numS (l : List UInt8) : Int := ((s_l17Num (bs l)).getD (0, false)).1
theorem s_num {l : List UInt8} (h : l.length ≤ 1048576) : ∃ b, s_l17Num (bs l) = some (numS l, b) := by
  obtain ⟨r, hr, _⟩ := s_num_some h
  refine ⟨r.2, ?_⟩
  unfold numS
  rw [hr]
  rfl
theorem val_lt_take {l : List UInt8} {i : Nat} (hi : i < l.length) : val 0 (l.take (i + 1)) = val 0 (l.take i) * 10 + ((l[i]).toNat - 48) := by
  unfold val
  rw [List.take_add_one, List.getElem?_eq_getElem hi, Option.toList_some, List.foldl_append]
  rfl
theorem val_take_le {l : List UInt8} (i : Nat) : val 0 (l.take i) ≤ val 0 l := by
  have h : val 0 l = val (val 0 (l.take i)) (l.drop i) := by
    unfold val
    rw [← List.foldl_append, List.take_append_drop]
  rw [h]
  exact val_ge _ _
theorem s_num_dec {n : Nat} (h : n ≤ 1000000) : s_l17Num (bs (dec n)) = some ((n : Int), true) := by
  have hd := dec_digit n
  have hv := val_dec n
  have hp := dec_pos n
  have hlen := dec_len 6 n (by omega)
  have hh := dec_head n
  have h0 : (dec n).length ≠ 1 → n ≠ 0 := by
    rintro h1 rfl
    exact h1 (by rw [dec_small (by omega)]; rfl)
  generalize dec n = l at *
  obtain ⟨c, r, rfl⟩ : ∃ c r, l = c :: r := by
    cases l with
    | nil => simp at hp
    | cons c r => exact ⟨c, r, rfl⟩
  have hc := hd c (by simp)
  unfold s_l17Num
  simp only [bs_size, sidx_bs]
  rw [if_pos (by simp only [decide_eq_true_eq]; omega), show idx (c :: r) 0 = some c from rfl, Option.bind_some, Option.bind_some, show ((c.toNat : Int) == 45) = false from by simp only [beq_eq_false_iff_ne]; omega]
  simp only [Bool.false_eq_true, if_false, Option.bind_some, bs_size, sidx_bs, show idx (c :: r) 0 = some c from rfl]
  rw [if_neg (by simp only [Bool.or_eq_true, beq_iff_eq, decide_eq_true_eq, not_or]; omega), Option.bind_some]
  have hb : (((c.toNat : Int) == 48) && ((decide (((c :: r).length : Int) > 1)) || false)) = false := by
    cases hx : ((c.toNat : Int) == 48) with
    | false => rfl
    | true =>
      simp only [beq_iff_eq] at hx
      have e : c = 48 := UInt8.toNat_inj.1 (by show c.toNat = 48; omega)
      simp only [Bool.true_and, Bool.or_false, decide_eq_false_iff_not]
      intro hgt
      exact hh (h0 (by omega)) (by rw [e]; rfl)
  rw [hb]
  simp only [Bool.false_eq_true, if_false]
  rw [cntF_nat (by omega), Option.bind_some]
  have hloop := count_to (b := s_l17Num_b1 (bs (c :: r))) (fun i => ((val 0 ((c :: r).take i) : Nat) : Int)) (c :: r).length 0 (fun i _ hi => by
    have hi : i < (c :: r).length := by omega
    have hdi := hd (c :: r)[i] (List.getElem_mem hi)
    have hle := val_take_le (l := c :: r) (i + 1)
    have hst := val_lt_take hi
    unfold s_l17Num_b1
    rw [sidx_bs, idx_lt hi, Option.bind_some, if_neg (by simp only [Bool.or_eq_true, decide_eq_true_eq, not_or]; omega), wrap_u8 (by omega) (by omega), i64_id (n := (((c :: r)[i]).toNat : Int) - 48) (by omega) (by omega), i64_id (n := _ * 10) (by omega) (by omega), i64_id (by omega) (by omega)]
    congr 2
    omega)
  rw [Nat.zero_add] at hloop
  rw [show ((0 : Int)) = ((val 0 ((c :: r).take 0) : Nat) : Int) from rfl, hloop, Option.bind_some]
  simp only [List.take_length, hv, Option.bind_some]
theorem numS_dec {n : Nat} (h : n ≤ 1000000) : numS (dec n) = (n : Int) := by
  unfold numS
  rw [s_num_dec h]
  rfl
def litT (l : Int) : List UInt8 := if l < 0 then 126 :: 120 :: dec (-l).toNat else 120 :: dec l.toNat
def okL (l : Int) : Prop := l ≠ 0 ∧ -12 ≤ l ∧ l ≤ 12
theorem litT_len {l : Int} (h : okL l) : (litT l).length ≤ 4 := by
  unfold okL at h
  unfold litT
  split
  · have := dec_len 1 (-l).toNat (by omega); simp only [List.length_cons]; omega
  · have := dec_len 1 l.toNat (by omega); simp only [List.length_cons]; omega
theorem i_litText {l : Int} (h : -1000000 ≤ l ∧ l ≤ 1000000) : i_literalText l = some (bs (litT l)) := by
  unfold i_literalText litT
  split
  · rename_i hl
    have hl := of_decide_eq_true hl
    have := dec_len 6 (-l).toNat (by omega)
    rw [i64_id (by omega) (by omega), itoa_of (by omega) (by omega), Option.bind_some, show (⟨#[126, 120]⟩ : ByteArray) = bs [126, 120] from rfl, cat_bs (by simp only [List.length_cons, List.length_nil]; omega), if_pos hl]
    rfl
  · rename_i hl
    have hl : ¬ l < 0 := by simpa using hl
    have := dec_len 6 l.toNat (by omega)
    rw [itoa_of (by omega) (by omega), Option.bind_some, show (⟨#[120]⟩ : ByteArray) = bs [120] from rfl, cat_bs (by simp only [List.length_cons, List.length_nil]; omega), if_neg hl]
    rfl
theorem s_litText {l : Int} (h : -1000000 ≤ l ∧ l ≤ 1000000) {fu : Nat} (hf : 30 ≤ fu) : s_l1Name fu l = some (bs (litT l)) := by
  unfold s_l1Name litT
  split
  · rename_i hl
    have hl := of_decide_eq_true hl
    have := dec_len 6 (-l).toNat (by omega)
    rw [i64_id (by omega) (by omega), s_dec_of (by omega) (by omega) hf, Option.bind_some, show (⟨#[126, 120]⟩ : ByteArray) = bs [126, 120] from rfl, cat_bs (by simp only [List.length_cons, List.length_nil]; omega), if_pos hl]
    rfl
  · rename_i hl
    have hl : ¬ l < 0 := by simpa using hl
    have := dec_len 6 l.toNat (by omega)
    rw [s_dec_of (by omega) (by omega) hf, Option.bind_some, show (⟨#[120]⟩ : ByteArray) = bs [120] from rfl, cat_bs (by simp only [List.length_cons, List.length_nil]; omega), if_neg hl]
    rfl
def termT (t : Term) : List UInt8 := dec t.coef.toNat ++ 32 :: litT t.lit ++ [32]
def conT (c : Con) : List UInt8 := c.terms.flatMap termT ++ [62, 61, 32] ++ dec c.bound.toNat
theorem okT_L {t : Term} (h : okT t = true) : okL t.lit := ⟨(okT_lit h).1, (okT_lit h).2.1, (okT_lit h).2.2.1⟩
theorem termT_len {t : Term} (h : okT t = true) : (termT t).length ≤ 10 := by
  have h1 := okT_lit h
  have h2 := litT_len (okT_L h)
  have h3 := dec_len 3 t.coef.toNat (by omega)
  unfold termT
  simp only [List.length_append, List.length_cons, List.length_nil]
  omega
theorem terms_len : ∀ {ts : List Term}, (∀ t ∈ ts, okT t = true) → (ts.flatMap termT).length ≤ 10 * ts.length
  | [], _ => by simp
  | t :: ts, h => by
    have h1 := termT_len (h t (by simp))
    have h2 := terms_len (ts := ts) fun x hx => h x (by simp [hx])
    rw [List.flatMap_cons, List.length_append, List.length_cons]
    omega
theorem conT_len {c : Con} (h : okCon c = true) : (conT c).length ≤ 128 := by
  obtain ⟨_, h2, h3, h4, h5⟩ := okCon_parts h
  have h6 := terms_len h3
  have h7 := dec_len 4 c.bound.toNat (by omega)
  unfold conT
  simp only [List.length_append, List.length_cons, List.length_nil]
  omega
theorem flat_take {α β : Type} (f : α → List β) {xs : List α} {i : Nat} {x : α} (h : xs[i]? = some x) : (xs.take (i + 1)).flatMap f = (xs.take i).flatMap f ++ f x := by
  rw [List.take_add_one, h, Option.toList_some, List.flatMap_append]
  simp
theorem i_text {c : Con} (h : okCon c = true) : i_Constraint_text c = some (bs (conT c)) := by
  obtain ⟨_, h2, h3, h4, h5⟩ := okCon_parts h
  unfold i_Constraint_text
  have hl := range_to (b := i_Constraint_text_b1) (fun i => bs ((c.terms.take i).flatMap termT)) c.terms fun i t ht => by
    have hok := h3 t (List.mem_of_getElem? ht)
    have h1 := okT_lit hok
    have hL := okT_L hok
    have e1 := litT_len hL
    have e2 := dec_len 3 t.coef.toNat (by omega)
    have e3 := terms_len (ts := c.terms.take i) fun x hx => h3 x (List.mem_of_mem_take hx)
    have e4 : (c.terms.take i).length ≤ 12 := by rw [List.length_take]; omega
    unfold i_Constraint_text_b1
    rw [itoa_of (by omega) (by omega), Option.bind_some, show (⟨#[32]⟩ : ByteArray) = bs [32] from rfl, cat_bs (by simp only [List.length_cons, List.length_nil]; omega), Option.bind_some, i_litText (by omega), Option.bind_some,
      cat_bs (by simp only [List.length_append, List.length_cons, List.length_nil]; omega), Option.bind_some, cat_bs (by simp only [List.length_append, List.length_cons, List.length_nil]; omega), Option.bind_some,
      cat_bs (by simp only [List.length_append, List.length_cons, List.length_nil]; omega), Option.bind_some, flat_take termT ht]
    unfold termT
    simp only [List.append_assoc, List.cons_append, List.nil_append]
  have e3 := terms_len h3
  have e5 := dec_len 4 c.bound.toNat (by omega)
  rw [show (⟨#[]⟩ : ByteArray) = bs ((c.terms.take 0).flatMap termT) from rfl, hl, Option.bind_some]
  simp only [List.take_length]
  rw [show (⟨#[62, 61, 32]⟩ : ByteArray) = bs [62, 61, 32] from rfl, cat_bs (by simp only [List.length_cons, List.length_nil]; omega), Option.bind_some, itoa_of h4 (by omega), Option.bind_some,
    cat_bs (by simp only [List.length_append, List.length_cons, List.length_nil]; omega), Option.bind_some]
  rfl
theorem s_text {c : Con} (h : okCon c = true) {fu : Nat} (hf : 30 ≤ fu) : s_l1Text fu c = some (bs (conT c)) := by
  obtain ⟨_, h2, h3, h4, h5⟩ := okCon_parts h
  unfold s_l1Text
  have hl := range_to (b := s_l1Text_b1 fu) (fun i => bs ((c.terms.take i).flatMap termT)) c.terms fun i t ht => by
    have hok := h3 t (List.mem_of_getElem? ht)
    have h1 := okT_lit hok
    have hL := okT_L hok
    have e1 := litT_len hL
    have e2 := dec_len 3 t.coef.toNat (by omega)
    have e3 := terms_len (ts := c.terms.take i) fun x hx => h3 x (List.mem_of_mem_take hx)
    have e4 : (c.terms.take i).length ≤ 12 := by rw [List.length_take]; omega
    unfold s_l1Text_b1
    rw [s_dec_of (by omega) (by omega) hf, Option.bind_some, show (⟨#[32]⟩ : ByteArray) = bs [32] from rfl, cat_bs (by omega), Option.bind_some, cat_bs (by simp only [List.length_append, List.length_cons, List.length_nil]; omega), Option.bind_some, s_litText (by omega) hf, Option.bind_some,
      cat_bs (by simp only [List.length_append, List.length_cons, List.length_nil]; omega), Option.bind_some, cat_bs (by simp only [List.length_append, List.length_cons, List.length_nil]; omega), Option.bind_some, flat_take termT ht]
    unfold termT
    simp only [List.append_assoc, List.cons_append, List.nil_append]
  have e3 := terms_len h3
  have e5 := dec_len 4 c.bound.toNat (by omega)
  rw [show (⟨#[]⟩ : ByteArray) = bs ((c.terms.take 0).flatMap termT) from rfl, hl, Option.bind_some]
  simp only [List.take_length]
  rw [show (⟨#[62, 61, 32]⟩ : ByteArray) = bs [62, 61, 32] from rfl, cat_bs (by simp only [List.length_cons, List.length_nil]; omega), Option.bind_some, s_dec_of h4 (by omega) hf, Option.bind_some,
    cat_bs (by simp only [List.length_append, List.length_cons, List.length_nil]; omega), Option.bind_some]
  rfl
def fmtC (c : Con) : List UInt8 := if okCon c then conT c else []
theorem s_format (c : Con) (hl : c.terms.length ≤ ML) {fu : Nat} (hf : 30 ≤ fu) : s_FormatConstraint fu c = some (bs (fmtC c)) := by
  unfold s_FormatConstraint fmtC
  rw [s_valid c hl, Option.bind_some]
  cases h : okCon c with
  | true => simp [s_text h hf]
  | false => rfl
end Go.L
namespace Go.L
open Go Go.E
set_option linter.unusedSimpArgs false
set_option linter.unusedVariables false
set_option maxRecDepth 100000
theorem i_lit_is (l : Int) : i_isLiteral l = some (l != 0 && (decide (-12 ≤ l) && decide (l ≤ 12))) := by
  unfold i_isLiteral i_within
  by_cases h : l = 0
  · subst h; rfl
  · rw [if_pos (by simpa using h)]
    have : (l != 0) = true := by simpa using h
    rw [this]
    rfl
theorem i_readLit_some {l : List UInt8} (h : l.length ≤ 1048576) : So (i_readLiteral (bs l)) fun _ => True := by
  unfold i_readLiteral strings_CutPrefix strings_TrimPrefix
  rw [Option.bind_some, Option.bind_some]
  simp only [show (⟨#[126]⟩ : ByteArray) = bs [126] from rfl, show (⟨#[120]⟩ : ByteArray) = bs [120] from rfl, bs_list]
  have hp : ∀ a p : List UInt8, (Go.Lib.trimPrefix a p).length ≤ a.length := fun a p => by
    unfold Go.Lib.trimPrefix; split
    · simp
    · exact Nat.le_refl _
  have h1 := hp l [126]
  have h2 := hp (Go.Lib.trimPrefix l [126]) [120]
  rw [i_num (by omega), Option.bind_some]
  refine so_bind (so_ite (P := fun _ => True) (fun _ => so_some trivial) fun _ => so_some trivial) fun k _ => ?_
  rw [i_lit_is, Option.bind_some]
  refine so_bind (P := fun _ => True) (so_ite (fun _ => so_some trivial) fun hc => ?_) fun _ _ => so_ite (fun _ => so_some trivial) fun _ => so_some trivial
  have hk : -12 ≤ k ∧ k ≤ 12 := by
    simp only [Bool.not_eq_true', Bool.not_eq_false, Bool.and_eq_true, decide_eq_true_eq] at hc
    exact hc.2
  rw [i_litText (by omega), Option.bind_some]
  exact so_some trivial
def litI (l : List UInt8) : Int := (i_readLiteral (bs l)).getD 0
theorem i_readLit {l : List UInt8} (h : l.length ≤ 1048576) : i_readLiteral (bs l) = some (litI l) := by
  obtain ⟨r, hr, _⟩ := i_readLit_some h
  unfold litI
  rw [hr]
  rfl
theorem litI_lit {k : Int} (h : okL k) : litI (litT k) = k := by
  have hl : (litT k).length ≤ 1048576 := by have := litT_len h; omega
  obtain ⟨h0, h1, h2⟩ := h
  unfold litI i_readLiteral strings_CutPrefix strings_TrimPrefix
  rw [Option.bind_some, Option.bind_some]
  simp only [show (⟨#[126]⟩ : ByteArray) = bs [126] from rfl, show (⟨#[120]⟩ : ByteArray) = bs [120] from rfl, bs_list]
  have hfin : ∀ (b : Bool) (d : Int), (if b then i64 (-d) else d) = k → ((if b then some (i64 (-d)) else some d) : Option Int) = some k := fun b d hd => by cases b <;> simp_all
  have last : ((i_isLiteral k).bind fun x48 => (if (!x48) then some true else ((i_literalText k).bind fun x55 => some (!(ByteArray.toList x55 == ByteArray.toList (bs (litT k)))))).bind fun b57 => if b57 then (some 0) else (some k)) = some k := by
    rw [i_lit_is, Option.bind_some]
    have e : (k != 0 && (decide (-12 ≤ k) && decide (k ≤ 12))) = true := by simp [h0, h1, h2]
    rw [e]
    simp only [Bool.not_true, Bool.false_eq_true, if_false]
    rw [i_litText (by omega), Option.bind_some, eq_bs, Option.bind_some]
    simp
  by_cases hk : k < 0
  · have e1 : Go.Lib.trimPrefix (litT k) [126] = 120 :: dec (-k).toNat := by unfold litT Go.Lib.trimPrefix Go.Lib.hasPrefix; simp [hk]
    have e2 : Go.Lib.hasPrefix (litT k) [126] = true := by unfold litT Go.Lib.hasPrefix; simp [hk]
    have e3 : Go.Lib.trimPrefix (120 :: dec (-k).toNat) [120] = dec (-k).toNat := by unfold Go.Lib.trimPrefix Go.Lib.hasPrefix; simp
    have := dec_len 1 (-k).toNat (by omega)
    rw [e1, e2, e3, i_num (by omega), numI_dec (by omega), Option.bind_some, hfin true _ (by simp only [if_true]; rw [i64_id (by omega) (by omega)]; omega), Option.bind_some, last]
    rfl
  · have e1 : Go.Lib.trimPrefix (litT k) [126] = 120 :: dec k.toNat := by unfold litT Go.Lib.trimPrefix Go.Lib.hasPrefix; simp [hk]
    have e2 : Go.Lib.hasPrefix (litT k) [126] = false := by unfold litT Go.Lib.hasPrefix; rw [if_neg hk]; rfl
    have e3 : Go.Lib.trimPrefix (120 :: dec k.toNat) [120] = dec k.toNat := by unfold Go.Lib.trimPrefix Go.Lib.hasPrefix; simp
    have := dec_len 1 k.toNat (by omega)
    rw [e1, e2, e3, i_num (by omega), numI_dec (by omega), Option.bind_some, hfin false _ (by simp only [Bool.false_eq_true, if_false]; omega), Option.bind_some, last]
    rfl
theorem s_readLit_some {l : List UInt8} (h : l.length ≤ 1048576) : So (s_l1Literal (bs l)) fun _ => True := by
  unfold s_l1Literal
  refine so_bind (P := fun b2 => b2 = true → 1 ≤ l.length) (so_ite (fun hc => ?_) fun _ => so_some (by simp)) fun b2 hb2 => ?_
  · have hc := of_decide_eq_true hc
    rw [bs_size] at hc
    rw [sidx_bs]
    exact so_bind (so_idx (P := fun _ => True) (by omega) (by omega) fun _ _ => trivial) fun _ _ => so_some fun _ => by omega
  refine so_bind (P := fun s => ∃ q : List UInt8, s.1 = bs q ∧ q.length ≤ 1048576) (so_ite (fun hc => ?_) fun _ => so_some ⟨l, rfl, h⟩) fun s ⟨q, hs, hq⟩ => ?_
  · have := hb2 hc
    rw [show ((1 : Int)) = ((1 : Nat) : Int) from rfl, ssl_from this]
    exact so_bind (so_some (P := fun s => s = bs (l.drop 1)) rfl) fun s hs => so_some ⟨_, hs, by simp <;> omega⟩
  obtain ⟨s1, s2⟩ := s
  obtain rfl : s1 = bs q := hs
  simp only
  refine so_bind (P := fun b => b = false → 1 ≤ q.length) (so_ite (fun _ => so_some (by simp)) fun hc => ?_) fun b hb => so_ite (fun _ => so_some trivial) fun hc => ?_
  · rw [bs_size] at hc
    simp only [decide_eq_true_eq, Int.not_lt] at hc
    rw [sidx_bs]
    exact so_bind (so_idx (P := fun _ => True) (by omega) (by omega) fun _ _ => trivial) fun _ _ => so_some fun _ => by omega
  · have := hb (by simpa using hc)
    rw [show ((1 : Int)) = ((1 : Nat) : Int) from rfl, ssl_from this, Option.bind_some]
    exact so_bind (s_num_some (by simp <;> omega)) fun _ _ => so_ite (fun _ => so_some trivial) fun _ => so_some trivial
noncomputable def litS (l : List UInt8) : Int := (s_l1Literal (bs l)).getD 0
theorem s_readLit {l : List UInt8} (h : l.length ≤ 1048576) : s_l1Literal (bs l) = some (litS l) := by
  obtain ⟨r, hr, _⟩ := s_readLit_some h
  unfold litS
  rw [hr]
  rfl
theorem litS_rest (sign : Int) (k : Nat) (h1 : 1 ≤ k) (h2 : k ≤ 12) (hs : sign = 1 ∨ sign = -1) :
    ((if decide (((bs (120 :: dec k)).size : Int) < 2) then some true else ((sidx (bs (120 :: dec k)) 0).bind fun x10 => some ((x10.toNat : Int) != 120))).bind fun b11 => if b11 then (some 0) else ((ssl (bs (120 :: dec k)) 1 ((bs (120 :: dec k)).size : Int)).bind fun x15 => (s_l17Num x15).bind fun x21 => if (((!x21.2) || (decide (x21.1 < 1))) || (decide (x21.1 > 12))) then (some 0) else (some (i64 (sign * x21.1))))) = some (sign * (k : Int)) := by
  have := dec_pos k
  rw [bs_size, if_neg (by simp only [decide_eq_true_eq, List.length_cons]; omega), sidx_bs, show idx (120 :: dec k) 0 = some (120 : UInt8) from rfl, Option.bind_some, Option.bind_some]
  simp only [show (((120 : UInt8).toNat : Int) != 120) = false from rfl, Bool.false_eq_true, if_false]
  rw [← bs_size (120 :: dec k), show ((1 : Int)) = ((1 : Nat) : Int) from rfl, ssl_from (by simp), Option.bind_some]
  simp only [List.drop_succ_cons, List.drop_zero]
  rw [s_num_dec (by omega), Option.bind_some]
  simp only [Bool.not_true, Bool.false_or]
  rw [if_neg (by simp only [Bool.or_eq_true, decide_eq_true_eq, not_or]; omega)]
  rcases hs with rfl | rfl
  · rw [i64_id (by omega) (by omega)]
  · rw [i64_id (by omega) (by omega)]
theorem litS_lit {k : Int} (h : okL k) : litS (litT k) = k := by
  obtain ⟨h0, h1, h2⟩ := h
  unfold litS s_l1Literal
  by_cases hk : k < 0
  · have e : litT k = 126 :: 120 :: dec (-k).toNat := by unfold litT; rw [if_pos hk]
    rw [e]
    rw [if_pos (by rw [bs_size]; simp only [decide_eq_true_eq, List.length_cons]; omega), sidx_bs, show idx (126 :: 120 :: dec (-k).toNat) 0 = some (126 : UInt8) from rfl, Option.bind_some, Option.bind_some]
    simp only [show (((126 : UInt8).toNat : Int) == 126) = true from rfl, if_true]
    rw [show ((1 : Int)) = ((1 : Nat) : Int) from rfl, ssl_from (by simp), Option.bind_some, Option.bind_some]
    simp only [List.drop_succ_cons, List.drop_zero]
    rw [show (((1 : Nat) : Int)) = (1 : Int) from rfl]
    refine (congrArg (fun o : Option Int => o.getD 0) (litS_rest (-1) (-k).toNat (by omega) (by omega) (.inr rfl))).trans ?_
    show (-1) * (((-k).toNat : Nat) : Int) = k
    omega
  · have e : litT k = 120 :: dec k.toNat := by unfold litT; rw [if_neg hk]
    rw [e]
    rw [if_pos (by rw [bs_size]; simp only [decide_eq_true_eq, List.length_cons]; omega), sidx_bs, show idx (120 :: dec k.toNat) 0 = some (120 : UInt8) from rfl, Option.bind_some, Option.bind_some]
    simp only [show (((120 : UInt8).toNat : Int) == 126) = false from rfl, Bool.false_eq_true, if_false, Option.bind_some]
    refine (congrArg (fun o : Option Int => o.getD 0) (litS_rest 1 k.toNat (by omega) (by omega) (.inl rfl))).trans ?_
    show 1 * ((k.toNat : Nat) : Int) = k
    omega
theorem dec_no32 (n : Nat) : (32 : UInt8) ∉ dec n := fun h => by have := (dec_digit n 32 h).1; simp at this
theorem dec_no10 (n : Nat) : (10 : UInt8) ∉ dec n := fun h => by have := (dec_digit n 10 h).1; simp at this
theorem litT_no32 (k : Int) : (32 : UInt8) ∉ litT k := by
  unfold litT
  split
  · intro h
    rcases List.mem_cons.1 h with h | h
    · cases h
    · rcases List.mem_cons.1 h with h | h
      · cases h
      · exact dec_no32 _ h
  · intro h
    rcases List.mem_cons.1 h with h | h
    · cases h
    · exact dec_no32 _ h
theorem split_terms (r : List UInt8) : ∀ ts : List Term, splitC 32 (ts.flatMap termT ++ r) = ts.flatMap (fun t => [dec t.coef.toNat, litT t.lit]) ++ splitC 32 r
  | [] => rfl
  | t :: ts => by
    have e : termT t ++ ts.flatMap termT ++ r = dec t.coef.toNat ++ 32 :: (litT t.lit ++ 32 :: (ts.flatMap termT ++ r)) := by
      rw [show termT t = dec t.coef.toNat ++ 32 :: litT t.lit ++ [32] from rfl]
      simp only [List.append_assoc, List.cons_append, List.nil_append]
    rw [List.flatMap_cons, List.flatMap_cons, e, splitC_cut _ (dec_no32 _), splitC_cut _ (litT_no32 _), split_terms r ts]
    rfl
theorem split_con (c : Con) : splitC 32 (conT c) = c.terms.flatMap (fun t => [dec t.coef.toNat, litT t.lit]) ++ [[62, 61], dec c.bound.toNat] := by
  unfold conT
  rw [List.append_assoc, split_terms]
  congr 1
  show splitC 32 ([62, 61] ++ 32 :: dec c.bound.toNat) = _
  rw [splitC_cut _ (by decide), splitC_none (dec_no32 _)]
theorem pairs_len (ts : List Term) (f : Term → List UInt8) (g : Term → List UInt8) : (ts.flatMap (fun t => [f t, g t])).length = 2 * ts.length := by
  induction ts with
  | nil => rfl
  | cons t ts ih => rw [List.flatMap_cons, List.length_append, ih]; simp; omega
theorem pairs_get (f : Term → List UInt8) (g : Term → List UInt8) (r : List (List UInt8)) : ∀ (ts : List Term) (i : Nat) (t : Term), ts[i]? = some t →
    (ts.flatMap (fun t => [f t, g t]) ++ r)[2 * i]? = some (f t) ∧ (ts.flatMap (fun t => [f t, g t]) ++ r)[2 * i + 1]? = some (g t)
  | [], i, t, h => by simp at h
  | t0 :: ts, 0, t, h => by simp at h; subst h; simp
  | t0 :: ts, i + 1, t, h => by
    have ih := pairs_get f g r ts i t (by simpa using h)
    rw [List.flatMap_cons]
    show ([f t0, g t0] ++ _ ++ r)[2 * (i + 1)]? = _ ∧ ([f t0, g t0] ++ _ ++ r)[2 * (i + 1) + 1]? = _
    rw [show 2 * (i + 1) + 1 = (2 * i + 1) + 1 + 1 by omega, show 2 * (i + 1) = (2 * i) + 1 + 1 by omega]
    simpa using ih
def termsOf (num lit : List UInt8 → Int) (ws : List (List UInt8)) (k : Nat) : List Term := (List.range k).map fun i => ⟨num (ws.getD (2 * i) []), lit (ws.getD (2 * i + 1) [])⟩
theorem termsOf_next (num lit : List UInt8 → Int) (ws : List (List UInt8)) (k : Nat) : termsOf num lit ws (k + 1) = termsOf num lit ws k ++ [⟨num (ws.getD (2 * k) []), lit (ws.getD (2 * k + 1) [])⟩] := by
  unfold termsOf
  rw [List.range_succ, List.map_append]
  rfl
theorem termsOf_len (num lit : List UInt8 → Int) (ws : List (List UInt8)) (k : Nat) : (termsOf num lit ws k).length = k := by simp [termsOf]
theorem idx_words {ws : List (List UInt8)} {i : Nat} (h : i < ws.length) : idx (ws.map bs) (i : Int) = some (bs (ws.getD i [])) := by
  rw [idx_nat, List.getElem?_map, List.getElem?_eq_getElem h]
  simp [List.getD, List.getElem?_eq_getElem h]
theorem getD_len {ws : List (List UInt8)} {l : List UInt8} (hw : ∀ w ∈ ws, w.length ≤ l.length) (i : Nat) : (ws.getD i []).length ≤ l.length := by
  unfold List.getD
  cases h : ws[i]? with
  | none => simp
  | some w => exact hw w (List.mem_of_getElem? h)
def conOf (num lit : List UInt8 → Int) (ws : List (List UInt8)) : Con := ⟨termsOf num lit ws ((ws.length - 2) / 2), num (ws.getD (ws.length - 1) [])⟩
theorem conOf_con {num lit : List UInt8 → Int} (hn : ∀ n : Nat, n ≤ 1000000 → num (dec n) = n) (hl : ∀ k, okL k → lit (litT k) = k) {c : Con} (h : okCon c = true) :
    (splitC 32 (conT c)).length = 2 * c.terms.length + 2 ∧ conOf num lit (splitC 32 (conT c)) = c := by
  obtain ⟨_, h2, h3, h4, h5⟩ := okCon_parts h
  have hlen : (splitC 32 (conT c)).length = 2 * c.terms.length + 2 := by rw [split_con, List.length_append, pairs_len]; rfl
  refine ⟨hlen, ?_⟩
  unfold conOf
  rw [hlen, show (2 * c.terms.length + 2 - 2) / 2 = c.terms.length by omega]
  have e1 : num ((splitC 32 (conT c)).getD (2 * c.terms.length + 2 - 1) []) = c.bound := by
    rw [split_con]
    unfold List.getD
    rw [List.getElem?_append_right (by rw [pairs_len]; omega), pairs_len, show 2 * c.terms.length + 2 - 1 - 2 * c.terms.length = 1 by omega]
    show num (dec c.bound.toNat) = _
    rw [hn _ (by omega)]; omega
  rw [e1]
  have e2 : termsOf num lit (splitC 32 (conT c)) c.terms.length = c.terms := by
    apply List.ext_getElem?
    intro i
    unfold termsOf
    rw [List.getElem?_map]
    cases ht : c.terms[i]? with
    | none =>
      rw [List.getElem?_eq_none_iff] at ht
      rw [List.getElem?_eq_none (by simpa using ht)]
      rfl
    | some t =>
      have hi := (List.getElem?_eq_some_iff.1 ht).1
      have hok := h3 t (List.mem_of_getElem? ht)
      have h1 := okT_lit hok
      obtain ⟨g1, g2⟩ := pairs_get (fun t => dec t.coef.toNat) (fun t => litT t.lit) [[62, 61], dec c.bound.toNat] c.terms i t ht
      rw [List.getElem?_range hi, Option.map_some, split_con]
      unfold List.getD
      rw [g1, g2]
      show some (Term.mk (num (dec t.coef.toNat)) (lit (litT t.lit))) = _
      rw [hn _ (by omega), hl _ (okT_L hok)]
      congr 1
      cases t
      simp only at h1
      simp only [Term.mk.injEq, and_true]
      omega
  rw [e2]
theorem numI_n (n : Nat) (h : n ≤ 1000000) : numI (dec n) = n := numI_dec (by omega)
theorem numS_n (n : Nat) (h : n ≤ 1000000) : numS (dec n) = n := numS_dec h
theorem con_inj {c d : Con} (hc : okCon c = true) (hd : okCon d = true) (h : conT c = conT d) : c = d := by
  have h1 := (conOf_con numI_n (fun k => litI_lit) hc).2
  rw [h, (conOf_con numI_n (fun k => litI_lit) hd).2] at h1
  exact h1.symm
open Classical in
noncomputable def parseC (l : List UInt8) : Con × Bool := if h : ∃ c, okCon c = true ∧ l = conT c then (Classical.choose h, true) else (⟨[], 0⟩, false)
theorem parseC_con {c : Con} (h : okCon c = true) : parseC (conT c) = (c, true) := by
  unfold parseC
  have hx : ∃ d, okCon d = true ∧ conT c = conT d := ⟨c, h, rfl⟩
  rw [dif_pos hx]
  have hs := Classical.choose_spec hx
  rw [con_inj hs.1 h hs.2.symm]
theorem parseC_no {l : List UInt8} (h : ∀ c, okCon c = true → l ≠ conT c) : parseC l = (⟨[], 0⟩, false) := by
  unfold parseC
  rw [dif_neg (fun ⟨c, hc, e⟩ => h c hc e)]
theorem parseC_len (l : List UInt8) : (parseC l).1.terms.length ≤ 12 := by
  by_cases hx : ∃ c, okCon c = true ∧ l = conT c
  · obtain ⟨c, hc, rfl⟩ := hx
    rw [parseC_con hc]
    exact (okCon_parts hc).2.1
  · rw [parseC_no (fun c hc e => hx ⟨c, hc, e⟩)]
    simp
theorem parse_end {l : List UInt8} (c : Con) (b : Bool) (hb : b = true ↔ okCon c = true ∧ l = conT c) (hno : ∀ d, okCon d = true → l = conT d → c = d) :
    parseC l = if b then (c, true) else (⟨[], 0⟩, false) := by
  cases hbb : b with
  | true =>
    obtain ⟨h1, h2⟩ := hb.1 hbb
    rw [h2, parseC_con h1]
    rfl
  | false =>
    rw [parseC_no fun d hd e => ?_]
    · rfl
    · have := hno d hd e
      subst this
      rw [hb.2 ⟨hd, e⟩] at hbb
      cases hbb
theorem i_parseC {l : List UInt8} (h : l.length ≤ 1048576) {fu : Nat} (hf : 100 ≤ fu) : i_ParseConstraint fu (bs l) = some (parseC l) := by
  have hw : ∀ w ∈ splitC 32 l, w.length ≤ l.length := fun w => splitC_mem
  have hwl := splitC_len 32 l
  have hne : (splitC 32 l).length ≠ 0 := by rw [Ne, List.length_eq_zero_iff]; exact splitC_ne 32 l
  unfold i_ParseConstraint
  rw [show (⟨#[32]⟩ : ByteArray) = bs [32] from rfl, strings_split (by omega), Option.bind_some]
  have hcon : ∀ d, okCon d = true → l = conT d → (splitC 32 l).length = 2 * d.terms.length + 2 ∧ conOf numI litI (splitC 32 l) = d := fun d hd e => by rw [e]; exact conOf_con numI_n (fun k => litI_lit) hd
  generalize hws : splitC 32 l = ws at *
  simp only [List.length_map]
  rw [i64_id (n := (ws.length : Int) - 2) (by omega) (by omega)]
  by_cases hc : ((decide ((ws.length : Int) - 2 < 0) || decide ((ws.length : Int) - 2 > 24)) || (Int.tmod ((ws.length : Int) - 2) 2 != 0)) = true
  · rw [if_pos hc]
    refine congrArg some (parseC_no fun d hd e => ?_).symm
    obtain ⟨h1, _⟩ := hcon d hd e
    have h2 := (okCon_parts hd).2.1
    rw [h1] at hc
    simp only [Bool.or_eq_true, decide_eq_true_eq, bne_iff_ne, ne_eq] at hc
    rcases hc with (hc | hc) | hc
    · omega
    · omega
    · apply hc
      rw [show (((2 * d.terms.length + 2 : Nat) : Int) - 2) = 2 * (d.terms.length : Int) by omega]
      exact Int.tmod_eq_zero_of_dvd ⟨_, rfl⟩
  · rw [if_neg hc]
    simp only [Bool.or_eq_true, decide_eq_true_eq, bne_iff_ne, ne_eq, not_or, Decidable.not_not, Int.not_lt] at hc
    obtain ⟨⟨c1, c2⟩, c3⟩ := hc
    obtain ⟨K, hK⟩ : ∃ K : Nat, ws.length = 2 * K + 2 := by
      obtain ⟨q, hq⟩ := Int.dvd_of_tmod_eq_zero c3
      exact ⟨q.toNat, by omega⟩
    have e0 : i64 ((ws.length : Int) - 2 + 1) = ((ws.length - 1 : Nat) : Int) := by rw [i64_id (by omega) (by omega)]; omega
    rw [e0, idx_words (by omega), Option.bind_some, i_num (by have := getD_len hw (ws.length - 1); omega), Option.bind_some]
    obtain ⟨j, hj, rfl⟩ := while_inv (b := i_ParseConstraint_b1 (ws.map bs)) (fun n s => ∃ k : Nat, s = (((2 * k : Nat) : Int), termsOf numI litI ws k) ∧ k ≤ K ∧ n = K - k) (fun j => j = .nx (((2 * K : Nat) : Int), termsOf numI litI ws K)) (by
      rintro n s ⟨k, rfl, hk, rfl⟩
      unfold i_ParseConstraint_b1
      simp only [List.length_map]
      rw [i64_id (n := (ws.length : Int) - 2) (by omega) (by omega)]
      by_cases hkK : k = K
      · rw [if_neg (by simp only [decide_eq_true_eq]; omega)]
        exact ⟨_, rfl, by rw [hkK]⟩
      · rw [if_pos (by simp only [decide_eq_true_eq]; omega), idx_words (by omega), Option.bind_some, i_num (by have := getD_len hw (2 * k); omega), Option.bind_some, show i64 (((2 * k : Nat) : Int) + 1) = ((2 * k + 1 : Nat) : Int) from by rw [i64_id (by omega) (by omega)]; omega,
          idx_words (by omega), Option.bind_some, i_readLit (by have := getD_len hw (2 * k + 1); omega), Option.bind_some, app_le (by rw [termsOf_len]; simp; omega), Option.bind_some]
        refine ⟨_, rfl, K - (k + 1), by omega, k + 1, ?_, by omega, rfl⟩
        rw [termsOf_next, i64_id (by omega) (by omega)]
        congr 1) fu K ((0 : Int), ([] : List Term)) ⟨0, rfl, by omega, rfl⟩ (by omega)
    rw [hj, Option.bind_some]
    simp only
    have hcc : (⟨termsOf numI litI ws K, numI (ws.getD (ws.length - 1) [])⟩ : Con) = conOf numI litI ws := by unfold conOf; rw [show (ws.length - 2) / 2 = K by omega]
    rw [hcc, i_valid, Option.bind_some]
    generalize hd : conOf numI litI ws = d at *
    have hfin := parse_end d (okCon d && (conT d == l)) (by rw [Bool.and_eq_true, beq_iff_eq]; exact and_congr Iff.rfl eq_comm) fun e he hle => (hcon e he hle).2
    rw [hfin]
    cases hok : okCon d with
    | false => rfl
    | true =>
      simp only [Bool.not_true, Bool.false_eq_true, if_false, Bool.true_and]
      rw [i_text hok, Option.bind_some, eq_bs, Option.bind_some]
      cases (conT d == l) <;> rfl
theorem s_parseC {l : List UInt8} (h : l.length ≤ 1048576) {fu : Nat} (hf : 100 ≤ fu) : s_ParseConstraint fu (bs l) = some (parseC l) := by
  have hw : ∀ w ∈ splitC 32 l, w.length ≤ l.length := fun w => splitC_mem
  have hwl := splitC_len 32 l
  have hne : (splitC 32 l).length ≠ 0 := by rw [Ne, List.length_eq_zero_iff]; exact splitC_ne 32 l
  unfold s_ParseConstraint
  rw [show ((32 : Int)) = ((32 : Nat) : Int) from rfl, s_cut (by omega) h, show UInt8.ofNat 32 = 32 from rfl, Option.bind_some]
  have hcon : ∀ d, okCon d = true → l = conT d → (splitC 32 l).length = 2 * d.terms.length + 2 ∧ conOf numS litS (splitC 32 l) = d := fun d hd e => by rw [e]; exact conOf_con numS_n (fun k => litS_lit) hd
  have hgt : ∀ d, okCon d = true → l = conT d → (splitC 32 l).getD ((splitC 32 l).length - 2) [] = [62, 61] := fun d hd e => by
    obtain ⟨h1, _⟩ := hcon d hd e
    rw [h1, e, split_con]
    unfold List.getD
    rw [List.getElem?_append_right (by rw [pairs_len]; omega), pairs_len, show 2 * d.terms.length + 2 - 2 - 2 * d.terms.length = 0 by omega]
    rfl
  have hl0 : ∀ d, okCon d = true → conT d ≠ [] := fun d _ e => by unfold conT at e; simp at e
  generalize hws : splitC 32 l = ws at *
  simp only [List.length_map]
  have hno : ∀ (P : Prop), (∀ d, okCon d = true → l = conT d → False) → parseC l = (⟨[], 0⟩, false) := fun _ hx => parseC_no fun d hd e => hx d hd e
  by_cases hc : ((decide ((ws.length : Int) < 2) || (Int.tmod (ws.length : Int) 2 != 0)) || decide ((ws.length : Int) > 26)) = true
  · rw [if_pos hc, Option.bind_some]
    simp only [if_true]
    refine congrArg some (parseC_no fun d hd e => ?_).symm
    obtain ⟨h1, _⟩ := hcon d hd e
    have h2 := (okCon_parts hd).2.1
    rw [h1] at hc
    simp only [Bool.or_eq_true, decide_eq_true_eq, bne_iff_ne, ne_eq] at hc
    rcases hc with (hc | hc) | hc
    · omega
    · apply hc
      rw [show ((2 * d.terms.length + 2 : Nat) : Int) = 2 * ((d.terms.length + 1 : Nat) : Int) by omega]
      exact Int.tmod_eq_zero_of_dvd ⟨_, rfl⟩
    · omega
  · rw [if_neg hc]
    simp only [Bool.or_eq_true, decide_eq_true_eq, bne_iff_ne, ne_eq, not_or, Decidable.not_not, Int.not_lt] at hc
    obtain ⟨⟨c1, c3⟩, c2⟩ := hc
    obtain ⟨K, hK⟩ : ∃ K : Nat, ws.length = 2 * K + 2 := by
      obtain ⟨q, hq⟩ := Int.dvd_of_tmod_eq_zero c3
      exact ⟨q.toNat - 1, by omega⟩
    rw [show i64 ((ws.length : Int) - 2) = ((ws.length - 2 : Nat) : Int) from by rw [i64_id (by omega) (by omega)]; omega, idx_words (by omega), Option.bind_some, show (⟨#[62, 61]⟩ : ByteArray) = bs [62, 61] from rfl, eq_bs, Option.bind_some]
    by_cases hg : ws.getD (ws.length - 2) [] = [62, 61]
    · rw [hg]
      simp only [beq_self_eq_true, Bool.not_true, Bool.false_eq_true, if_false]
      obtain ⟨j, hj, rfl⟩ := while_inv (b := s_ParseConstraint_b1 (ws.map bs)) (fun n s => ∃ k : Nat, s = (((2 * k : Nat) : Int), termsOf numS litS ws k) ∧ k ≤ K ∧ n = K - k) (fun j => j = .nx (((2 * K : Nat) : Int), termsOf numS litS ws K)) (by
        rintro n s ⟨k, rfl, hk, rfl⟩
        unfold s_ParseConstraint_b1
        simp only [List.length_map]
        rw [i64_id (n := ((2 * k : Nat) : Int) + 2) (by omega) (by omega)]
        by_cases hkK : k = K
        · rw [if_neg (by simp only [decide_eq_true_eq]; omega)]
          exact ⟨_, rfl, by rw [hkK]⟩
        · obtain ⟨b, hb⟩ := s_num (l := ws.getD (2 * k) []) (by have := getD_len hw (2 * k); omega)
          rw [if_pos (by simp only [decide_eq_true_eq]; omega), idx_words (by omega), Option.bind_some, hb, Option.bind_some, show i64 (((2 * k : Nat) : Int) + 1) = ((2 * k + 1 : Nat) : Int) from by rw [i64_id (by omega) (by omega)]; omega,
            idx_words (by omega), Option.bind_some, s_readLit (by have := getD_len hw (2 * k + 1); omega), Option.bind_some, app_le (by rw [termsOf_len]; simp; omega), Option.bind_some]
          refine ⟨_, rfl, K - (k + 1), by omega, k + 1, ?_, by omega, rfl⟩
          rw [termsOf_next]
          congr 1) fu K ((0 : Int), ([] : List Term)) ⟨0, rfl, by omega, rfl⟩ (by omega)
      rw [hj, Option.bind_some]
      simp only
      obtain ⟨b, hb⟩ := s_num (l := ws.getD (ws.length - 1) []) (by have := getD_len hw (ws.length - 1); omega)
      rw [show i64 ((ws.length : Int) - 1) = ((ws.length - 1 : Nat) : Int) from by rw [i64_id (by omega) (by omega)]; omega, idx_words (by omega), Option.bind_some, hb, Option.bind_some]
      have hcc : (⟨termsOf numS litS ws K, numS (ws.getD (ws.length - 1) [])⟩ : Con) = conOf numS litS ws := by unfold conOf; rw [show (ws.length - 2) / 2 = K by omega]
      rw [hcc, s_format _ (by unfold conOf ML; rw [termsOf_len]; omega) (by omega), Option.bind_some, eq_bs]
      have hln : l ≠ [] := by
        rintro rfl
        rw [← hws] at hK
        simp [splitC] at hK <;> omega
      generalize hd : conOf numS litS ws = d at *
      have hfin := parse_end d (fmtC d == l) (by
        rw [beq_iff_eq]
        unfold fmtC
        constructor
        · intro e
          split at e
          · exact ⟨‹_›, e.symm⟩
          · exact absurd e.symm hln
        · rintro ⟨e1, e2⟩
          rw [if_pos e1, e2]) fun e he hle => (hcon e he hle).2
      rw [hfin]
      cases (fmtC d == l) <;> rfl
    · have hb : (ws.getD (ws.length - 2) [] == [62, 61]) = false := by simpa using hg
      rw [hb]
      simp only [Bool.not_false, if_true]
      exact congrArg some (parseC_no fun d hd e => hg (hgt d hd e)).symm
end Go.L
namespace Go.L
open Go Go.E
set_option linter.unusedVariables false
set_option linter.unusedSimpArgs false
set_option maxRecDepth 100000
theorem so_countK {σ τ : Type} {b : Nat → σ → Option (Lo σ τ)} (I : Nat → σ → Prop) (n k : Nat) (s : σ) (h0 : I k s) (h : ∀ i s, k ≤ i → i < k + n → I i s → So (b i s) fun o => ∃ s', o = .cont s' ∧ I (i + 1) s') :
    So (countL b n k s) fun j => ∃ s', j = .nx s' ∧ I (k + n) s' := by
  obtain ⟨j, hj, hQ⟩ := count_inv (b := b) I (fun j => ∃ s', j = .nx s' ∧ I (k + n) s') n k (fun s hs => ⟨s, rfl, hs⟩) (fun i s h1 h2 hI => by
    obtain ⟨o, ho, s', rfl, hs'⟩ := h i s h1 h2 hI
    exact ⟨_, ho, hs'⟩) s h0
  exact ⟨j, hj, hQ⟩
theorem total_ok (c : Con) : So (s_l1Total c) fun _ => True := by
  unfold s_l1Total
  refine so_bind (so_range (b := s_l1Total_b1) (fun _ _ => True) c.terms 0 trivial fun i t n _ _ => so_some ⟨_, rfl, trivial⟩) ?_
  rintro j ⟨s, rfl, _⟩
  exact so_some trivial
theorem draw_ok (r : Rd) (most : Nat) (hm : most ≤ 12) (hb : r.b.length ≤ 2000) (h0 : 0 ≤ r.p) (h1 : r.p + 100 ≤ PM) :
    So (s_l1Draw r (most : Int)) fun o => o.1.terms.length ≤ 12 ∧ r.p ≤ o.2 ∧ o.2 ≤ r.p + 40 := by
  unfold PM at h1
  unfold s_l1Draw
  have e : cntF 1 ((most : Int) + 1) = some most := by rw [cntF_of (s := 1) (by omega) (by omega)]; congr 1; omega
  have hpm : ∀ p, p ≤ r.p + 99 → p ≤ PM := fun p hp => by unfold PM; omega
  rw [e, Option.bind_some]
  refine so_bind (so_countK (b := s_l1Draw_b1 r) (fun i (s : Int × List Term) => s.2.length + 1 ≤ i ∧ r.p ≤ s.1 ∧ s.1 + 3 ≤ r.p + 3 * i) most 1 (r.p, []) ⟨by simp, by simp, by simp⟩ ?_) ?_
  · rintro i ⟨p, out⟩ hi0 hi1 ⟨a, b, c⟩
    simp only at a b c
    rw [s_l1Draw_b1]
    refine so_bind (pick_ok ⟨r.b, p⟩ 2 hb (by simp only; omega) (hpm _ (by simp only; omega))) fun x ⟨hx, _, _⟩ => ?_
    simp only at hx
    refine so_bind (P := fun (o : Int × List Term) => o.2.length ≤ i ∧ r.p ≤ o.1 ∧ o.1 ≤ p + 3) (so_ite (fun _ => ?_) fun _ => so_some ⟨by simp only; omega, by simp only; omega, by simp only; omega⟩) ?_
    · refine so_bind (num_ok ⟨r.b, x.2⟩ _ (by simp) hb (by simp only; omega) (hpm _ (by simp only; omega))) fun y ⟨hy, _⟩ => ?_
      simp only at hy
      refine so_bind (pick_ok ⟨r.b, y.2⟩ 2 hb (by simp only; omega) (hpm _ (by simp only; omega))) fun z ⟨hz, _, _⟩ => ?_
      simp only at hz
      refine so_bind (P := fun _ => True) (so_ite (fun _ => so_some trivial) fun _ => so_some trivial) fun l _ => ?_
      refine so_bind (so_app (P := fun o => o.length = out.length + 1) (by simp; omega) (by simp)) fun o ho => ?_
      have ho : o.length = out.length + 1 := ho
      exact so_some ⟨by simp only; omega, by simp only; omega, by simp only; omega⟩
    · rintro ⟨q, o⟩ ⟨h2, h3, h4⟩
      simp only at h2 h3 h4
      exact so_some ⟨_, rfl, by simp only; omega, by simp only; omega, by simp only; omega⟩
  · rintro j ⟨⟨p, out⟩, rfl, a, b, c⟩
    simp only at a b c
    refine so_bind (total_ok _) fun t _ => ?_
    refine so_bind (num_ok ⟨r.b, p⟩ _ (by simp) hb (by simp only; omega) (hpm _ (by simp only; omega))) fun y ⟨hy, _⟩ => ?_
    simp only at hy
    refine so_bind (pick_ok ⟨r.b, y.2⟩ 4 hb (by simp only; omega) (hpm _ (by simp only; omega))) fun z ⟨hz, _, _⟩ => ?_
    simp only at hz
    refine so_bind (P := fun (o : Int × Int) => r.p ≤ o.1 ∧ o.1 ≤ z.2 + 1) (so_ite (fun _ => ?_) fun _ => so_some ⟨by simp only; omega, by simp only; omega⟩) ?_
    · refine so_bind (pick_ok ⟨r.b, z.2⟩ _ hb (by simp only; omega) (hpm _ (by simp only; omega))) fun u ⟨hu, _, _⟩ => so_some ?_
      simp only at hu
      exact ⟨by simp only; omega, by simp only; omega⟩
    · rintro ⟨q, o⟩ ⟨h2, h3⟩
      simp only at h2 h3
      exact so_some ⟨by simp only; omega, by simp only; omega, by simp only; omega⟩
theorem copy_ok (c : Con) (hc : c.terms.length ≤ 4000000) : s_l1Copy c = some c := by
  unfold s_l1Copy
  rw [app_le (by simp; omega)]
  rfl
theorem mutate_ok (r : Rd) (c : Con) (hc : c.terms.length ≤ 1000) (hb : r.b.length ≤ 2000) (h0 : 0 ≤ r.p) (h1 : r.p + 100 ≤ PM) :
    So (s_l1Mutate r c) fun o => o.1.terms.length ≤ c.terms.length + 1 ∧ r.p ≤ o.2 ∧ o.2 ≤ r.p + 2 := by
  unfold PM at h1
  have hpm : ∀ p, p ≤ r.p + 99 → p ≤ PM := fun p hp => by unfold PM; omega
  unfold s_l1Mutate
  rw [copy_ok c (by omega), Option.bind_some]
  refine so_bind (pick_ok r 40 hb h0 (hpm _ (by omega))) fun x ⟨hx, _, _⟩ => ?_
  refine so_bind (P := fun (o : Int × List Term × Int) => o.2.1.length ≤ c.terms.length + 1 ∧ r.p ≤ o.1 ∧ o.1 ≤ r.p + 2) ?_ ?_
  · refine so_ite (fun _ => ?_) fun _ => ?_
    · refine so_bind (num_ok ⟨r.b, x.2⟩ _ (by simp) hb (by simp only; omega) (hpm _ (by simp only; omega))) fun y ⟨hy, _⟩ => so_some ?_
      simp only at hy
      exact ⟨by simp only; omega, by simp only; omega, by simp only; omega⟩
    · refine so_bind (P := fun (o : Int × List Term) => o.2.length ≤ c.terms.length + 1 ∧ r.p ≤ o.1 ∧ o.1 ≤ r.p + 2) ?_ fun o ho => so_some ho
      refine so_ite (fun _ => ?_) fun _ => ?_
      · refine so_bind (P := fun (o : Int × List Term) => o.2.length ≤ c.terms.length + 1 ∧ r.p ≤ o.1 ∧ o.1 ≤ r.p + 2) ?_ fun o ho => so_some ho
        refine so_ite (fun hn => ?_) fun _ => so_some ⟨by simp only; omega, by simp only; omega, by simp only; omega⟩
        have hn := of_decide_eq_true hn
        refine so_bind (num_ok ⟨r.b, x.2⟩ _ (by simp) hb (by simp only; omega) (hpm _ (by simp only; omega))) fun y ⟨hy, _⟩ => ?_
        simp only at hy
        refine so_bind (so_idx (P := fun _ => True) (by omega) (by omega) fun _ _ => trivial) fun z _ => so_some ⟨by simp only [List.length_set]; omega, by simp only; omega, by simp only; omega⟩
      · refine so_bind (P := fun (o : Int × List Term) => o.2.length ≤ c.terms.length + 1 ∧ r.p ≤ o.1 ∧ o.1 ≤ r.p + 2) ?_ fun o ho => so_some ho
        refine so_ite (fun _ => ?_) fun _ => ?_
        · refine so_bind (P := fun (o : Int × List Term) => o.2.length ≤ c.terms.length + 1 ∧ r.p ≤ o.1 ∧ o.1 ≤ r.p + 2) ?_ fun o ho => so_some ho
          refine so_ite (fun hn => ?_) fun _ => so_some ⟨by simp only; omega, by simp only; omega, by simp only; omega⟩
          have hn := of_decide_eq_true hn
          refine so_bind (num_ok ⟨r.b, x.2⟩ _ (by simp) hb (by simp only; omega) (hpm _ (by simp only; omega))) fun y ⟨hy, _⟩ => ?_
          simp only at hy
          have e : i64 ((c.terms.length : Int) - 1) = (c.terms.length : Int) - 1 := i64_id (by omega) (by omega)
          rw [e]
          refine so_bind (so_idx (P := fun _ => True) (by omega) (by omega) fun _ _ => trivial) fun z _ => so_some ⟨by simp only [List.length_set]; omega, by simp only; omega, by simp only; omega⟩
        · refine so_bind (P := fun (o : List Term) => o.length ≤ c.terms.length + 1) (so_ite (fun _ => ?_) fun _ => so_some (by omega)) fun o ho => so_some ⟨ho, by simp only; omega, by simp only; omega⟩
          refine so_bind (so_app (P := fun o => o.length = c.terms.length + 1) (by simp; omega) (by simp)) fun o ho => so_some (by omega)
  · rintro ⟨p, ts, n⟩ ⟨a, b, d⟩
    exact so_some ⟨a, b, d⟩
theorem problem_ok (r : Rd) (fu : Nat) (hf : FU ≤ fu) (hb : r.b.length ≤ 2000) (h0 : 0 ≤ r.p) (h1 : r.p + 600 ≤ PM) :
    So (s_l3Problem fu r) fun o => o.1.length ≤ 8 ∧ (∀ c ∈ o.1, c.terms.length ≤ 12) ∧ r.p ≤ o.2 ∧ o.2 ≤ r.p + 400 := by
  unfold PM at h1
  unfold FU at hf
  have hpm : ∀ p, p ≤ r.p + 599 → p ≤ PM := fun p hp => by unfold PM; omega
  unfold s_l3Problem
  refine so_bind (num_ok r _ (by simp) hb h0 (hpm _ (by omega))) fun x ⟨hx, hxm⟩ => ?_
  refine so_bind (num_ok ⟨r.b, x.2⟩ _ (by simp) hb (by simp only; omega) (hpm _ (by simp only; omega))) fun y ⟨hy, hym⟩ => ?_
  simp only at hy
  obtain ⟨m, hm, hm2⟩ : ∃ m : Nat, x.1 = (m : Int) ∧ m ≤ 12 := by
    simp at hxm
    exact ⟨x.1.toNat, by omega, by omega⟩
  have hy8 : 0 ≤ y.1 ∧ y.1 ≤ 8 := by simp at hym; omega
  refine so_bind (so_while (b := s_l3Problem_b1 r x) (fun n (s : List Con × Int × Int) => s.2.1 = (n : Int) ∧ s.1.length + n = y.1.toNat ∧ (∀ c ∈ s.1, c.terms.length ≤ 12) ∧ r.p ≤ s.2.2 ∧ s.2.2 + 40 * n ≤ r.p + 2 + 40 * y.1.toNat)
    (fun s => s.1.length ≤ 8 ∧ (∀ c ∈ s.1, c.terms.length ≤ 12) ∧ r.p ≤ s.2.2 ∧ s.2.2 ≤ r.p + 400) y.1.toNat _ fu (by omega) ⟨by simp only; omega, by simp, by simp, by simp only; omega, by simp only; omega⟩ ?_) ?_
  · rintro n ⟨out, i, p⟩ ⟨a, b, c, d, e⟩
    simp only at a b c d e
    subst a
    rw [s_l3Problem_b1]
    refine so_ite (fun hn => ?_) fun hn => ?_
    · have hn := of_decide_eq_true hn
      rw [hm]
      refine so_bind (draw_ok ⟨r.b, p⟩ m hm2 hb (by simp only; omega) (by unfold PM; simp only; omega)) fun z ⟨z1, z2, z3⟩ => ?_
      simp only at z2 z3
      refine so_bind (so_app (P := fun o => o = out ++ [z.1]) (by simp; omega) rfl) fun o ho => so_some (.inl ?_)
      subst ho
      refine ⟨_, n - 1, rfl, by omega, ?_, ?_, ?_, ?_, ?_⟩
      · show i64 ((n : Int) - 1) = _
        rw [i64_id (by omega) (by omega)]; omega
      · simp; omega
      · intro c' hc'
        rcases List.mem_append.1 hc' with h | h
        · exact c c' h
        · rw [List.mem_singleton] at h; subst h; exact z1
      · show r.p ≤ z.2; omega
      · show z.2 + 40 * ((n - 1 : Nat) : Int) ≤ _; omega
    · simp only [decide_eq_true_eq] at hn
      exact so_some (.inr ⟨_, rfl, by simp only; omega, c, d, by simp only; omega⟩)
  · rintro j ⟨⟨out, i, p⟩, rfl, h⟩
    exact so_some h
theorem mutateK_ok (k : Nat) (hk : k ≤ 500) (r : Rd) (list : List Con) (hl : list.length ≤ 1000) (hc : ∀ c ∈ list, c.terms.length ≤ k) (hb : r.b.length ≤ 2000) (h0 : 0 ≤ r.p) (h1 : r.p + 300 ≤ PM) :
    So (s_l3Mutate r list) fun o => o.1.length = list.length ∧ (∀ c ∈ o.1, c.terms.length ≤ k + 3) ∧ r.p ≤ o.2 ∧ o.2 ≤ r.p + 10 := by
  unfold PM at h1
  have hpm : ∀ p, p ≤ r.p + 299 → p ≤ PM := fun p hp => by unfold PM; omega
  unfold s_l3Mutate
  rw [app_le (by simp; omega), Option.bind_some, List.nil_append]
  refine so_bind (P := fun (o : Bool × Int) => (o.1 = true → 0 < (list.length : Int)) ∧ r.p ≤ o.2 ∧ o.2 ≤ r.p + 1) (so_ite (fun hn => ?_) fun _ => so_some ⟨by simp, by simp only; omega, by simp only; omega⟩) ?_
  · refine so_bind (pick_ok r 20 hb h0 (hpm _ (by omega))) fun x ⟨hx, _, _⟩ => so_some ⟨fun _ => by simpa using hn, by simp only; omega, by simp only; omega⟩
  rintro ⟨t, p⟩ ⟨ht, p0, p1⟩
  simp only at ht p0 p1
  refine so_bind (P := fun (o : List Con × Int) => o.1.length = list.length ∧ (∀ c ∈ o.1, c.terms.length ≤ k + 3) ∧ r.p ≤ o.2 ∧ o.2 ≤ r.p + 10) (so_ite (fun hn => ?_) fun _ => so_some ⟨rfl, fun c h => by have := hc c h; omega, by simp only; omega, by simp only; omega⟩) fun o ho => so_some ho
  have hn := ht hn
  refine so_bind (pick_ok ⟨r.b, p⟩ _ hb (by simp only; omega) (hpm _ (by simp only; omega))) fun x ⟨hx, hx0, hx1⟩ => ?_
  simp only at hx
  have hx1 := hx1 (by omega)
  refine so_bind (so_idx (P := fun (c : Con) => c.terms.length ≤ k) hx0 hx1 hc) fun c hc' => ?_
  refine so_bind (mutate_ok ⟨r.b, x.2⟩ c (by omega) hb (by simp only; omega) (by unfold PM; simp only; omega)) fun c1 ⟨a1, b1, d1⟩ => ?_
  simp only at b1 d1
  refine so_bind (mutate_ok ⟨r.b, c1.2⟩ c1.1 (by omega) hb (by simp only; omega) (by unfold PM; simp only; omega)) fun c2 ⟨a2, b2, d2⟩ => ?_
  simp only at b2 d2
  refine so_bind (mutate_ok ⟨r.b, c2.2⟩ c2.1 (by omega) hb (by simp only; omega) (by unfold PM; simp only; omega)) fun c3 ⟨a3, b3, d3⟩ => so_some ?_
  simp only at b3 d3
  refine ⟨by simp, fun c' h => ?_, by simp only; omega, by simp only; omega⟩
  rcases List.mem_or_eq_of_mem_set h with h | h
  · have := hc c' h; omega
  · subst h; omega
theorem mutateP_ok (r : Rd) (list : List Con) (hl : list.length ≤ 1000) (hc : ∀ c ∈ list, c.terms.length ≤ 100) (hb : r.b.length ≤ 2000) (h0 : 0 ≤ r.p) (h1 : r.p + 300 ≤ PM) :
    So (s_l3Mutate r list) fun o => o.1.length = list.length ∧ (∀ c ∈ o.1, c.terms.length ≤ 103) ∧ r.p ≤ o.2 ∧ o.2 ≤ r.p + 10 := mutateK_ok 100 (by omega) r list hl hc hb h0 h1
end Go.L
namespace Go.L
open Go Go.E
set_option linter.unusedVariables false
set_option linter.unusedSimpArgs false
set_option maxRecDepth 100000
def zeroC : Con := ⟨[], 0⟩
theorem rules_congr {b b' : Int} : ∀ (ts : List Term), b' ≤ b → okTerms b ts = true → okTerms b' ts = true
  | [], _, _ => rfl
  | t :: ts, hb, h => by
    rw [okTerms, Bool.and_eq_true, Bool.and_eq_true] at h
    rw [okTerms, Bool.and_eq_true, Bool.and_eq_true]
    have := of_decide_eq_true h.1.2
    exact ⟨⟨h.1.1, decide_eq_true (by omega)⟩, h.2⟩
theorem okTerms_filter (q : Term → Bool) : ∀ (ts : List Term) (b : Int), okTerms b ts = true → okTerms b (ts.filter q) = true
  | [], _, _ => rfl
  | t :: ts, b, h => by
    rw [okTerms, Bool.and_eq_true, Bool.and_eq_true] at h
    have h2 := of_decide_eq_true h.1.2
    rw [List.filter_cons]
    split
    · rw [okTerms, Bool.and_eq_true, Bool.and_eq_true]
      exact ⟨h.1, okTerms_filter q ts _ h.2⟩
    · exact rules_congr _ (by omega) (okTerms_filter q ts _ h.2)
theorem okTerms_map (f : Term → Term) : ∀ (ts : List Term) (b : Int), okTerms b ts = true → (∀ t ∈ ts, okT t = true → okT (f t) = true ∧ (f t).lit = t.lit) → okTerms b (ts.map f) = true
  | [], _, _, _ => rfl
  | t :: ts, b, h, hf => by
    rw [okTerms, Bool.and_eq_true, Bool.and_eq_true] at h
    have := hf t (by simp) h.1.1
    rw [List.map_cons, okTerms, Bool.and_eq_true, Bool.and_eq_true, this.2]
    exact ⟨⟨this.1, h.1.2⟩, okTerms_map f ts _ h.2 fun u hu => hf u (by simp [hu])⟩
theorem sumV_map_ge (v : List Bool) {f : Term → Term} : ∀ (ts : List Term), (∀ t ∈ ts, (f t).lit = t.lit) → sumV v (ts.map f) = sumR (fun t => if trueL v t.lit then (f t).coef else 0) ts
  | [], _ => rfl
  | t :: ts, h => by
    have := sumV_map_ge v ts fun u hu => h u (by simp [hu])
    unfold sumV at *
    simp only [List.map_cons, sumR]
    rw [this, h t (by simp)]
theorem evalC_iff {c : Con} {v : List Bool} : evalC c v = true ↔ c.bound ≤ sumV v c.terms := by unfold evalC; simp
def litB (l : Int) : Bool := l != 0 && (decide (-12 ≤ l) && decide (l ≤ 12))
def litC (l : Int) : Con × Bool := if litB l then (⟨[⟨1, l⟩], 0⟩, true) else (zeroC, false)
theorem litB_iff {l : Int} : litB l = true ↔ lit12 l := by unfold litB lit12; simp
theorem s_lit (l : Int) : s_LiteralAxiom l = some (litC l) := by
  unfold s_LiteralAxiom s_l1Lit litC litB
  cases h : l != 0 && (decide (-12 ≤ l) && decide (l ≤ 12)) <;> rw [← Bool.and_assoc] at h <;> simp [h] <;> rfl
theorem litC_ok {l : Int} {c : Con} (h : litC l = (c, true)) : okCon c = true ∧ ∀ v, evalC c v = true := by
  unfold litC at h
  split at h
  · rename_i hl
    rw [litB_iff] at hl
    obtain ⟨h0, h1, h2⟩ := hl
    cases h
    constructor
    · have hp : 0 < absI l := by unfold absI; omega
      show ((okT ⟨1, l⟩ && decide (0 < absI l)) && true && (decide ((0 : Int) ≤ 0) && decide ((0 : Int) ≤ 20000))) = true
      have ht : okT ⟨1, l⟩ = true := by unfold okT; simp; exact ⟨⟨h0, h1⟩, h2⟩
      simp [ht, hp]
    · intro v
      unfold evalC sumV
      simp only [sumR]
      split <;> simp
  · cases h
def isV (x : Int) (t : Term) : Bool := absI t.lit == x
def wS (x : Int) (ts : List Term) : Int := sumR (fun t => if isV x t then t.coef else 0) ts
def weakC (c : Con) (x : Int) : Con × Bool :=
  if okCon c && (decide (1 ≤ x) && decide (x ≤ 12)) then (⟨c.terms.filter (fun t => !isV x t), max 0 (c.bound - wS x c.terms)⟩, true) else (zeroC, false)
theorem sumR_snoc (f : Term → Int) (ts : List Term) (t : Term) : sumR f (ts ++ [t]) = sumR f ts + f t := by
  induction ts with
  | nil => simp [sumR]
  | cons u ts ih => rw [List.cons_append, sumR, ih, sumR]; omega
theorem sumR_bound {f : Term → Int} : ∀ (ts : List Term), (∀ t ∈ ts, 0 ≤ f t ∧ f t ≤ 1000) → 0 ≤ sumR f ts ∧ sumR f ts ≤ 1000 * ts.length
  | [], _ => by simp [sumR]
  | t :: ts, h => by
    have h1 := h t (by simp)
    have := sumR_bound (f := f) ts fun u hu => h u (by simp [hu])
    simp only [sumR, List.length_cons]; omega
theorem wS_bound (x : Int) (ts : List Term) (h : ∀ t ∈ ts, okT t = true) : 0 ≤ wS x ts ∧ wS x ts ≤ 1000 * ts.length :=
  sumR_bound ts fun t ht => by
    have := okT_lit (h t ht)
    show 0 ≤ (if isV x t then t.coef else 0) ∧ (if isV x t then t.coef else 0) ≤ 1000
    split <;> omega
theorem wS_snoc (x : Int) (ts : List Term) (t : Term) : wS x (ts ++ [t]) = wS x ts + (if isV x t then t.coef else 0) := sumR_snoc _ _ _
theorem take_snoc {α : Type} {xs : List α} {i : Nat} {x : α} (h : xs[i]? = some x) : xs.take (i + 1) = xs.take i ++ [x] := by rw [List.take_add_one, h]; rfl
theorem s_weak (c : Con) (x : Int) (hl : c.terms.length ≤ ML) : s_WeakenConstraint c x = some (weakC c x) := by
  unfold s_WeakenConstraint weakC
  rw [s_valid c hl, Option.bind_some]
  cases hc : okCon c with
  | false => rfl
  | true =>
    by_cases hx : 1 ≤ x ∧ x ≤ 12
    · have e : ((!true || decide (x < 1)) || decide (x > 12)) = false := by simp; omega
      have e' : (true && (decide (1 ≤ x) && decide (x ≤ 12))) = true := by simp [hx]
      rw [e, e', if_neg (by simp), if_pos rfl]
      obtain ⟨_, h2, h3, h4, h5⟩ := okCon_parts hc
      have := range_to (b := s_WeakenConstraint_b1 x) (fun i => ((c.terms.take i).filter (fun t => !isV x t), c.bound - wS x (c.terms.take i))) c.terms (by
        intro i t ht
        have hk := h3 t (List.mem_of_getElem? ht)
        obtain ⟨q0, q1, q2, q3, q4⟩ := okT_lit hk
        have hi := (List.getElem?_eq_some_iff.1 ht).1
        have hb := wS_bound x (c.terms.take i) fun u hu => h3 u (List.mem_of_mem_take hu)
        have hl : (c.terms.take i).length ≤ 12 := by simp; omega
        have hfl := List.length_filter_le (fun t : Term => !isV x t) (c.terms.take i)
        rw [s_WeakenConstraint_b1, s_abs t.lit (by omega) (by omega), Option.bind_some, take_snoc ht, List.filter_append, wS_snoc]
        show ((if isV x t then _ else _ : Option (List Term × Int)).bind _) = _
        cases he : isV x t with
        | true =>
          rw [i64_id (by omega) (by omega)]
          simp [he]; omega
        | false =>
          rw [app_le (by simp; omega)]
          simp [he])
      have e0 : (([] : List Term), c.bound) = ((c.terms.take 0).filter (fun t => !isV x t), c.bound - wS x (c.terms.take 0)) := by simp [wS, sumR]
      rw [e0, this]
      simp only [Option.bind_some, List.take_length]
      by_cases hn : c.bound - wS x c.terms < 0
      · simp only [hn, decide_true, if_true, Option.bind_some, Int.max_eq_left (Int.le_of_lt hn)]
      · simp only [hn, decide_false, Bool.false_eq_true, if_false, Option.bind_some, Int.max_eq_right (Int.not_lt.1 hn)]
    · have e : ((!true || decide (x < 1)) || decide (x > 12)) = true := by simp; omega
      have e' : (true && (decide (1 ≤ x) && decide (x ≤ 12))) = false := by simp; omega
      rw [e, e']
      rfl
theorem weakC_ok {c d : Con} {x : Int} (h : weakC c x = (d, true)) : okCon d = true ∧ ∀ v, evalC c v = true → evalC d v = true := by
  unfold weakC at h
  split at h
  · rename_i hc
    rw [Bool.and_eq_true] at hc
    obtain ⟨h1, h2, h3, h4, h5⟩ := okCon_parts hc.1
    simp only [Prod.mk.injEq, and_true] at h
    have hb := wS_bound x c.terms h3
    subst h
    constructor
    · unfold okCon okB
      simp only [okTerms_filter _ _ _ h1]
      simp
      omega
    · intro v hv
      unfold evalC at *
      simp at hv ⊢
      have key : ∀ ts : List Term, (∀ t ∈ ts, okT t = true) → sumV v ts ≤ sumV v (ts.filter fun t => !isV x t) + wS x ts ∧ 0 ≤ sumV v (ts.filter fun t => !isV x t) := by
        intro ts
        induction ts with
        | nil => intro _; simp [sumV, wS, sumR]
        | cons t ts ih =>
          intro h
          have := ih fun u hu => h u (by simp [hu])
          obtain ⟨_, _, _, q3, q4⟩ := okT_lit (h t (by simp))
          rw [List.filter_cons]
          unfold sumV wS at *
          cases he : isV x t <;> simp only [he, Bool.not_false, Bool.not_true, sumR, if_true, Bool.false_eq_true, if_false] <;> cases trueL v t.lit <;> simp <;> omega
      have := key c.terms h3
      omega
  · cases h
def satC (c : Con) : Con × Bool := if okCon c then (⟨if c.bound > 0 then c.terms.map (fun t => ⟨min t.coef c.bound, t.lit⟩) else [], c.bound⟩, true) else (zeroC, false)
theorem s_sat (fu : Nat) (hf : FU ≤ fu) (c : Con) (hl : c.terms.length ≤ ML) : s_SaturateConstraint fu c = some (satC c) := by
  unfold s_SaturateConstraint satC
  rw [s_valid c hl, Option.bind_some]
  cases hc : okCon c with
  | false => rfl
  | true =>
    obtain ⟨h1, h2, h3, h4, h5⟩ := okCon_parts hc
    have e : s_l2Saturate fu c = some ⟨if c.bound > 0 then c.terms.map (fun t => ⟨min t.coef c.bound, t.lit⟩) else [], c.bound⟩ := by
      unfold s_l2Saturate
      by_cases hb : c.bound > 0
      · obtain ⟨j, hj, hQ⟩ := while_inv (b := s_l2Saturate_b1 c) (fun n (s : Int × List Term) => ∃ i : Nat, s.1 = (i : Int) ∧ i + n = c.terms.length ∧ s.2 = (c.terms.take i).map (fun t => ⟨min t.coef c.bound, t.lit⟩))
          (fun j => ∃ k, j = .nx (k, c.terms.map (fun t => ⟨min t.coef c.bound, t.lit⟩))) (fun n s hI => by
            obtain ⟨k, out⟩ := s
            obtain ⟨i, hk, hi, ho⟩ := hI
            simp only at hk ho
            subst hk ho
            cases n with
            | zero =>
              refine ⟨_, by rw [s_l2Saturate_b1, if_neg (by simp; omega)], ?_⟩
              have : i = c.terms.length := by omega
              exact ⟨(i : Int), by rw [this, List.take_length]⟩
            | succ n =>
              have hil : i < c.terms.length := by omega
              have ht : c.terms[i]? = some c.terms[i] := List.getElem?_eq_getElem hil
              refine ⟨.cont (((i + 1 : Nat) : Int), (c.terms.take (i + 1)).map (fun t => ⟨min t.coef c.bound, t.lit⟩)), ?_, n, by omega, i + 1, rfl, by omega, rfl⟩
              rw [s_l2Saturate_b1, if_pos (by simp; omega), idx_nat, ht, Option.bind_some]
              have em : (if decide (c.terms[i].coef > c.bound) then (some c.bound) else (some c.terms[i].coef) : Option Int) = some (min c.terms[i].coef c.bound) := by
                by_cases h : c.terms[i].coef > c.bound
                · simp [h]; omega
                · simp [h]; omega
              rw [em, Option.bind_some, app_le (by simp; omega), Option.bind_some, take_snoc ht, List.map_append, i64_id (by omega) (by omega)]
              rfl)
          fu c.terms.length (0, []) ⟨0, rfl, by omega, rfl⟩ (by unfold FU at hf; omega)
        rw [hj]
        obtain ⟨k, rfl⟩ := hQ
        rw [if_pos hb]
        rfl
      · have e0 : whileL (s_l2Saturate_b1 c) fu (0, []) = some (.nx (0, [])) := by
          obtain ⟨k, rfl⟩ : ∃ k, fu = k + 1 := ⟨fu - 1, by unfold FU at hf; omega⟩
          show (s_l2Saturate_b1 c (0, [])).bind _ = _
          rw [s_l2Saturate_b1, if_neg (by simp; omega)]
          rfl
        rw [e0, if_neg hb]
        rfl
    rw [e]
    rfl
theorem satC_ok {c d : Con} (h : satC c = (d, true)) : okCon d = true ∧ ∀ v, evalC c v = true → evalC d v = true := by
  unfold satC at h
  split at h
  · rename_i hc
    obtain ⟨h1, h2, h3, h4, h5⟩ := okCon_parts hc
    simp only [Prod.mk.injEq, and_true] at h
    subst h
    by_cases hb : c.bound > 0
    · rw [if_pos hb]
      constructor
      · have := okTerms_map (fun t => (⟨min t.coef c.bound, t.lit⟩ : Term)) c.terms 0 h1 fun t ht hk => by
          obtain ⟨q0, q1, q2, q3, q4⟩ := okT_lit hk
          refine ⟨?_, rfl⟩
          unfold okT
          simp
          omega
        unfold okCon okB
        simp only [this]
        simp
        omega
      · intro v hv
        rw [evalC_iff] at hv ⊢
        show c.bound ≤ sumV v (c.terms.map fun t => ⟨min t.coef c.bound, t.lit⟩)
        rw [sumV_map_ge v (f := fun t => ⟨min t.coef c.bound, t.lit⟩) c.terms fun _ _ => rfl]
        have key : ∀ ts : List Term, (∀ t ∈ ts, okT t = true) → (0 ≤ sumR (fun t => if trueL v t.lit then min t.coef c.bound else 0) ts) ∧ (sumR (fun t => if trueL v t.lit then min t.coef c.bound else 0) ts = sumV v ts ∨ c.bound ≤ sumR (fun t => if trueL v t.lit then min t.coef c.bound else 0) ts) := by
          intro ts
          induction ts with
          | nil => intro _; exact ⟨by simp [sumR], .inl rfl⟩
          | cons t ts ih =>
            intro h
            have := ih fun u hu => h u (by simp [hu])
            obtain ⟨_, _, _, q3, q4⟩ := okT_lit (h t (by simp))
            unfold sumV at *
            simp only [sumR]
            cases trueL v t.lit <;> simp only [Bool.false_eq_true, if_false, if_true] <;> omega
        have := key c.terms h3
        simp only at this ⊢
        omega
    · rw [if_neg hb]
      constructor
      · unfold okCon okB
        simp [okTerms]
        omega
      · intro v hv
        unfold evalC at *
        simp [sumV, sumR]
        omega
  · cases h
def scaleC (f : Int → Int) (c : Con) : Con := ⟨c.terms.map (fun t => ⟨f t.coef, t.lit⟩), f c.bound⟩
def validC (c : Con) : Con × Bool := if okCon c then (c, true) else (zeroC, false)
def okK (k : Int) : Bool := decide (1 ≤ k) && decide (k ≤ 1000)
def mulC (c : Con) (k : Int) : Con × Bool := if okCon c && okK k then validC (scaleC (· * k) c) else (zeroC, false)
def upI (k n : Int) : Int := Int.tdiv (n + k - 1) k
def divC (c : Con) (k : Int) : Con × Bool := if okCon c && okK k then (scaleC (upI k) c, true) else (zeroC, false)
theorem okK_iff {k : Int} : okK k = true ↔ 1 ≤ k ∧ k ≤ 1000 := by unfold okK; simp
theorem mul_bound {n k B : Int} (h0 : 0 ≤ n) (h1 : n ≤ B) (k0 : 1 ≤ k) (k1 : k ≤ 1000) (hB : 0 ≤ B) : 0 ≤ n * k ∧ n * k ≤ B * 1000 :=
  ⟨Int.mul_nonneg h0 (by omega), Int.mul_le_mul h1 k1 (by omega) hB⟩
theorem upI_spec {n k : Int} (hn : 0 ≤ n) (hk : 1 ≤ k) : n ≤ k * upI k n ∧ k * upI k n ≤ n + k - 1 ∧ 0 ≤ upI k n := by
  unfold upI
  have e : Int.tdiv (n + k - 1) k = (n + k - 1) / k := Int.tdiv_eq_ediv_of_nonneg (by omega)
  rw [e]
  have h1 := Int.mul_ediv_add_emod (n + k - 1) k
  have h2 := Int.emod_nonneg (n + k - 1) (show k ≠ 0 by omega)
  have h3 := Int.emod_lt_of_pos (n + k - 1) (show 0 < k by omega)
  refine ⟨by omega, by omega, Int.ediv_nonneg (by omega) (by omega)⟩
theorem upI_le {n k B : Int} (hn : 0 ≤ n) (hk : 1 ≤ k) (hB : n ≤ B) : upI k n ≤ B := by
  obtain ⟨h1, h2, h3⟩ := upI_spec hn hk
  apply Classical.byContradiction
  intro h
  have h4 : k * (B + 1) ≤ k * upI k n := Int.mul_le_mul_of_nonneg_left (by omega) (by omega)
  have h5 : k * (B + 1) = k * B + k := by rw [Int.mul_add, Int.mul_one]
  have h6 : 1 * B ≤ k * B := Int.mul_le_mul_of_nonneg_right hk (by omega)
  omega
theorem upI_pos {n k : Int} (hn : 1 ≤ n) (hk : 1 ≤ k) : 1 ≤ upI k n := by
  obtain ⟨h1, h2, h3⟩ := upI_spec (n := n) (by omega) hk
  apply Classical.byContradiction
  intro h
  have : upI k n = 0 := by omega
  rw [this] at h1
  omega
theorem scale_map {τ : Type} (f : Int → Int) {b : Nat → Term → List Term → Option (Lo (List Term) τ)} {c : Con} (hn : c.terms.length ≤ 12) (hb : ∀ i t out, t ∈ c.terms → b i t out = (app out ([({ coef := f t.coef, lit := t.lit } : Term)])).bind fun x => some (.cont x)) :
    rangeL b c.terms 0 [] = some (.nx (scaleC f c).terms) :=
  range_map (fun t => (⟨f t.coef, t.lit⟩ : Term)) c.terms fun i t out ht hl => by
    have hi := (List.getElem?_eq_some_iff.1 ht).1
    rw [hb _ _ _ (List.mem_of_getElem? ht), app_le (by simp; omega)]
    rfl
theorem s_mul (c : Con) (k : Int) (hl : c.terms.length ≤ ML) : s_MultiplyConstraint c k = some (mulC c k) := by
  unfold s_MultiplyConstraint mulC
  rw [s_valid c hl, Option.bind_some]
  cases hc : okCon c with
  | false => rfl
  | true =>
    obtain ⟨h1, h2, h3, h4, h5⟩ := okCon_parts hc
    by_cases hk : 1 ≤ k ∧ k ≤ 1000
    · have e : ((!true || decide (k < 1)) || decide (k > 1000)) = false := by simp; omega
      rw [e, if_neg (by simp), okK_iff.2 hk, scale_map (· * k) (b := s_MultiplyConstraint_b1 k) h2 fun i t out ht => by
        obtain ⟨_, _, _, q3, q4⟩ := okT_lit (h3 t ht)
        have := mul_bound (n := t.coef) (B := 1000) (by omega) q4 hk.1 hk.2 (by omega)
        rw [s_MultiplyConstraint_b1, i64_id (by omega) (by omega)]]
      have := mul_bound (n := c.bound) (B := 20000) h4 h5 hk.1 hk.2 (by omega)
      rw [i64_id (n := c.bound * k) (by omega) (by omega)]
      show (s_ConstraintValid (scaleC (· * k) c)).bind _ = _
      rw [s_valid (scaleC (· * k) c) (by unfold ML scaleC; simp; omega), Option.bind_some, Bool.and_self, if_pos rfl, validC]
      cases okCon (scaleC (· * k) c) <;> rfl
    · have e : ((!true || decide (k < 1)) || decide (k > 1000)) = true := by simp; omega
      have e' : okK k = false := by
        cases h : okK k with
        | false => rfl
        | true => exact absurd (okK_iff.1 h) hk
      rw [e, e']
      rfl
theorem up_eq {n k B : Int} (hn : 0 ≤ n) (hB : n ≤ B) (hB2 : B ≤ 1000000) (hk : 1 ≤ k) (hk2 : k ≤ 1000) : i64 (Int.tdiv (i64 ((i64 (n + k)) - 1)) k) = upI k n := by
  have h1 := upI_le hn hk hB
  have h2 := (upI_spec hn hk).2.2
  rw [i64_id (n := n + k) (by omega) (by omega), i64_id (n := n + k - 1) (by omega) (by omega)]
  show i64 (upI k n) = _
  rw [i64_id (by omega) (by omega)]
theorem div_ok {c : Con} (hc : okCon c = true) {k : Int} (hk : 1 ≤ k) : okCon (scaleC (upI k) c) = true := by
  obtain ⟨h1, h2, h3, h4, h5⟩ := okCon_parts hc
  have := okTerms_map (fun t => (⟨upI k t.coef, t.lit⟩ : Term)) c.terms 0 h1 fun t ht hkt => by
    obtain ⟨q0, q1, q2, q3, q4⟩ := okT_lit hkt
    have a1 := upI_pos q3 hk
    have a2 := upI_le (n := t.coef) (by omega) hk q4
    refine ⟨?_, rfl⟩
    unfold okT
    simp
    omega
  have a1 := (upI_spec h4 hk).2.2
  have a2 := upI_le h4 hk h5
  unfold okCon okB scaleC
  simp only [this]
  simp
  omega
theorem s_up {n k B : Int} (hn : 0 ≤ n) (hB : n ≤ B) (hB2 : B ≤ 1000000) (hk : 1 ≤ k) (hk2 : k ≤ 1000) : s_l2Up n k = some (upI k n) := by
  unfold s_l2Up
  rw [if_neg (by omega), up_eq hn hB hB2 hk hk2]
  rfl
theorem s_div (c : Con) (k : Int) (hl : c.terms.length ≤ ML) : s_DivideConstraint c k = some (divC c k) := by
  unfold s_DivideConstraint divC
  rw [s_valid c hl, Option.bind_some]
  cases hc : okCon c with
  | false => rfl
  | true =>
    obtain ⟨h1, h2, h3, h4, h5⟩ := okCon_parts hc
    by_cases hk : 1 ≤ k ∧ k ≤ 1000
    · have e : ((!true || decide (k < 1)) || decide (k > 1000)) = false := by simp; omega
      rw [e, if_neg (by simp), okK_iff.2 hk, s_up h4 h5 (by omega) hk.1 hk.2, Option.bind_some, scale_map (upI k) (b := s_DivideConstraint_b1 k) h2 fun i t out ht => by
        obtain ⟨_, _, _, q3, q4⟩ := okT_lit (h3 t ht)
        rw [s_DivideConstraint_b1, s_up (n := t.coef) (by omega) q4 (by omega) hk.1 hk.2]
        rfl]
      rfl
    · have e : ((!true || decide (k < 1)) || decide (k > 1000)) = true := by simp; omega
      have e' : okK k = false := by
        cases h : okK k with
        | false => rfl
        | true => exact absurd (okK_iff.1 h) hk
      rw [e, e']
      rfl
theorem mulC_ok {c d : Con} {k : Int} (h : mulC c k = (d, true)) : okCon d = true ∧ ∀ v, evalC c v = true → evalC d v = true := by
  unfold mulC at h
  split at h
  · rename_i hc
    rw [Bool.and_eq_true, okK_iff] at hc
    unfold validC at h
    split at h
    · rename_i hd
      simp only [Prod.mk.injEq, and_true] at h
      subst h
      refine ⟨hd, fun v hv => ?_⟩
      rw [evalC_iff] at hv ⊢
      show c.bound * k ≤ sumV v (c.terms.map fun t => ⟨t.coef * k, t.lit⟩)
      rw [sumV_map_ge v (f := fun t => ⟨t.coef * k, t.lit⟩) c.terms fun _ _ => rfl]
      have key : ∀ ts : List Term, sumR (fun t => if trueL v t.lit then t.coef * k else 0) ts = sumV v ts * k := by
        intro ts
        induction ts with
        | nil => simp [sumV, sumR]
        | cons t ts ih =>
          unfold sumV at *
          simp only [sumR]
          rw [ih, Int.add_mul]
          cases trueL v t.lit <;> simp
      rw [key]
      exact Int.mul_le_mul_of_nonneg_right hv (by omega)
    · cases h
  · cases h
theorem divC_ok {c d : Con} {k : Int} (h : divC c k = (d, true)) : okCon d = true ∧ ∀ v, evalC c v = true → evalC d v = true := by
  unfold divC at h
  split at h
  · rename_i hc
    rw [Bool.and_eq_true, okK_iff] at hc
    simp only [Prod.mk.injEq, and_true] at h
    obtain ⟨h1, h2, h3, h4, h5⟩ := okCon_parts hc.1
    subst h
    refine ⟨div_ok hc.1 hc.2.1, fun v hv => ?_⟩
    rw [evalC_iff] at hv ⊢
    show upI k c.bound ≤ sumV v (c.terms.map fun t => ⟨upI k t.coef, t.lit⟩)
    rw [sumV_map_ge v (f := fun t => ⟨upI k t.coef, t.lit⟩) c.terms fun _ _ => rfl]
    show upI k c.bound ≤ sumR (fun t => if trueL v t.lit then upI k t.coef else 0) c.terms
    have key : ∀ ts : List Term, (∀ t ∈ ts, okT t = true) → sumV v ts ≤ k * sumR (fun t => if trueL v t.lit then upI k t.coef else 0) ts := by
      intro ts
      induction ts with
      | nil => intro _; simp [sumV, sumR]
      | cons t ts ih =>
        intro h
        have := ih fun u hu => h u (by simp [hu])
        obtain ⟨_, _, _, q3, q4⟩ := okT_lit (h t (by simp))
        have hu := (upI_spec (n := t.coef) (by omega) hc.2.1).1
        unfold sumV at *
        simp only [sumR]
        rw [Int.mul_add]
        cases trueL v t.lit <;> simp <;> omega
    have := key c.terms h3
    obtain ⟨u1, u2, u3⟩ := upI_spec h4 hc.2.1
    apply Classical.byContradiction
    intro hlt
    have h6 : k * (sumR (fun t => if trueL v t.lit then upI k t.coef else 0) c.terms + 1) ≤ k * upI k c.bound := Int.mul_le_mul_of_nonneg_left (by omega) (by omega)
    rw [Int.mul_add, Int.mul_one] at h6
    omega
  · cases h
end Go.L
namespace Go.L
open Go Go.E
set_option linter.unusedVariables false
set_option linter.unusedSimpArgs false
set_option maxRecDepth 100000
def con1 (k : Int) (t : Term) : Int := if t.lit = k then t.coef else if t.lit = -k then -t.coef else 0
def netF (ts : List Term) (k : Int) : Int := sumR (con1 k) ts
def negS (ts : List Term) : Int := sumR (fun t => if t.lit < 0 then t.coef else 0) ts
def okLit (t : Term) : Prop := lit12 t.lit ∧ -1000 ≤ t.coef ∧ t.coef ≤ 1000
theorem sumR_abs {f : Term → Int} : ∀ (ts : List Term), (∀ t ∈ ts, -1000 ≤ f t ∧ f t ≤ 1000) → -(1000 * (ts.length : Int)) ≤ sumR f ts ∧ sumR f ts ≤ 1000 * ts.length
  | [], _ => by simp [sumR]
  | t :: ts, h => by
    have h1 := h t (by simp)
    have := sumR_abs (f := f) ts fun u hu => h u (by simp [hu])
    simp only [sumR, List.length_cons]; omega
theorem netF_bound {ts : List Term} (h : ∀ t ∈ ts, okLit t) (hl : ts.length ≤ 100) (k : Int) : -100000 ≤ netF ts k ∧ netF ts k ≤ 100000 := by
  have := sumR_abs (f := con1 k) ts fun t ht => by
    obtain ⟨_, h1, h2⟩ := h t ht
    unfold con1
    split
    · omega
    · split <;> omega
  unfold netF
  omega
theorem negS_bound {ts : List Term} (h : ∀ t ∈ ts, okLit t) (hl : ts.length ≤ 100) : -100000 ≤ negS ts ∧ negS ts ≤ 100000 := by
  have := sumR_abs (f := fun t => if t.lit < 0 then t.coef else 0) ts fun t ht => by
    obtain ⟨_, h1, h2⟩ := h t ht
    split <;> omega
  unfold negS
  omega
def rowN (ts : List Term) : List Int := (List.range 13).map fun (k : Nat) => netF ts (k : Int)
theorem rowN_len (ts : List Term) : (rowN ts).length = 13 := by simp [rowN]
theorem rowN_get (ts : List Term) (k : Nat) (h : k < 13) : (rowN ts)[k]? = some (netF ts (k : Int)) := by
  unfold rowN
  rw [List.getElem?_map, List.getElem?_range h]
  rfl
theorem netF_snoc (ts : List Term) (t : Term) (k : Int) : netF (ts ++ [t]) k = netF ts k + con1 k t := sumR_snoc _ _ _
theorem negS_snoc (ts : List Term) (t : Term) : negS (ts ++ [t]) = negS ts + (if t.lit < 0 then t.coef else 0) := sumR_snoc _ _ _
theorem row_set (ts : List Term) (t : Term) (ht : okLit t) (k : Nat) (hk : (k : Int) = absI t.lit) (y : Int) (hy : y = netF ts (k : Int) + (if t.lit > 0 then t.coef else -t.coef)) : (rowN ts).set k y = rowN (ts ++ [t]) := by
  obtain ⟨⟨h0, h1, h2⟩, _, _⟩ := ht
  unfold absI at hk
  apply List.ext_getElem?
  intro j
  by_cases hj : j < 13
  · rw [rowN_get _ _ hj, List.getElem?_set, netF_snoc, rowN_get _ _ hj, rowN_len]
    by_cases e : k = j
    · subst e
      rw [if_pos rfl, if_pos hj, hy]
      unfold con1
      congr 2
      split
      · rw [if_pos (by omega)]
      · rw [if_neg (by omega), if_pos (by omega)]
    · rw [if_neg e]
      unfold con1
      rw [if_neg (by omega), if_neg (by omega)]
      simp
  · rw [List.getElem?_eq_none (by rw [List.length_set, rowN_len]; omega), List.getElem?_eq_none (by rw [rowN_len]; omega)]
theorem net_loop {τ : Type} {b : Nat → Term → Int × List Int → Option (Lo (Int × List Int) τ)} (ts : List Term) (bound : Int) (hts : ∀ t ∈ ts, okLit t) (hl : ts.length ≤ 100) (hb0 : -100000 ≤ bound ∧ bound ≤ 100000)
    (hb : ∀ i t bd (xs : List Term), okLit t → xs.length ≤ 100 → (∀ t ∈ xs, okLit t) → -200000 ≤ bd ∧ bd ≤ 200000 → b i t (bd, rowN xs) = some (.cont (bd - (if t.lit < 0 then t.coef else 0), rowN (xs ++ [t])))) :
    rangeL b ts 0 (bound, rowN []) = some (.nx (bound - negS ts, rowN ts)) := by
  have := range_to (b := b) (fun i => (bound - negS (ts.take i), rowN (ts.take i))) ts (by
    intro i t ht
    have ho := hts t (List.mem_of_getElem? ht)
    have hoo : ∀ u ∈ ts.take i, okLit u := fun u hu => hts u (List.mem_of_mem_take hu)
    have hlen : (ts.take i).length ≤ 100 := by simp; omega
    have hn := negS_bound hoo hlen
    rw [hb i t _ _ ho hlen hoo (by omega), take_snoc ht, negS_snoc]
    congr 3
    omega)
  have e0 : (bound, rowN []) = (bound - negS (ts.take 0), rowN (ts.take 0)) := by
    have : negS (ts.take 0) = 0 := rfl
    rw [this]; simp
  rw [e0, this, List.take_length]
theorem rowN_nil : List.replicate 13 (0 : Int) = rowN [] := by decide
theorem mkRow0 : mkN 13 (0 : Int) = some (rowN []) := by rw [← rowN_nil]; exact mkN_le (n := 13) (0 : Int) (by omega)
theorem s_net_round (i : Nat) (t : Term) (bd : Int) (xs : List Term) (ho : okLit t) (hl : xs.length ≤ 100) (hxs : ∀ t ∈ xs, okLit t) (hb : -200000 ≤ bd ∧ bd ≤ 200000) :
    s_l1Net_b1 i t (bd, rowN xs) = some (.cont (bd - (if t.lit < 0 then t.coef else 0), rowN (xs ++ [t]))) := by
  have ho' := ho
  obtain ⟨⟨h0, h1, h2⟩, h3, h4⟩ := ho
  rw [s_l1Net_b1]
  by_cases h : t.lit > 0
  · obtain ⟨k, hk⟩ : ∃ k : Nat, t.lit = (k : Int) := ⟨t.lit.toNat, by omega⟩
    have hn := netF_bound hxs hl (k : Int)
    rw [if_pos (decide_eq_true h), hk, idx_nat, rowN_get _ _ (by omega), Option.bind_some, Int.toNat_natCast, i64_id (by omega) (by omega), if_neg (by omega),
      row_set xs t ho' k (by unfold absI; omega) (netF xs (k : Int) + t.coef) (by rw [if_pos h])]
    simp
  · obtain ⟨k, hk⟩ : ∃ k : Nat, -t.lit = (k : Int) := ⟨(-t.lit).toNat, by omega⟩
    have hn := netF_bound hxs hl (k : Int)
    rw [if_neg (by simpa using h), i64_id (n := -t.lit) (by omega) (by omega), hk, idx_nat, rowN_get _ _ (by omega), Option.bind_some, Int.toNat_natCast, i64_id (n := bd - t.coef) (by omega) (by omega), i64_id (by omega) (by omega), if_pos (by omega),
      row_set xs t ho' k (by unfold absI; omega) (netF xs (k : Int) - t.coef) (by rw [if_neg h]; omega)]
    rfl
def piece (f : Int → Int) (k : Int) : List Term := if f k > 0 then [⟨f k, k⟩] else if f k < 0 then [⟨-f k, -k⟩] else []
def normT (f : Int → Int) : Nat → List Term
  | 0 => []
  | n + 1 => normT f n ++ piece f ((n + 1 : Nat) : Int)
def minS (f : Int → Int) : Nat → Int
  | 0 => 0
  | n + 1 => minS f n + min (f ((n + 1 : Nat) : Int)) 0
def normC (ts : List Term) (bound : Int) : Con × Bool := validC ⟨normT (netF ts) 12, max 0 (bound - negS ts - minS (netF ts) 12)⟩
theorem normT_len (f : Int → Int) : ∀ n, (normT f n).length ≤ n
  | 0 => Nat.le_refl _
  | n + 1 => by
    have := normT_len f n
    rw [normT, List.length_append]
    have : (piece f ((n + 1 : Nat) : Int)).length ≤ 1 := by
      unfold piece
      split
      · simp
      · split <;> simp
    omega
theorem minS_bound {f : Int → Int} (h : ∀ k, -100000 ≤ f k ∧ f k ≤ 100000) : ∀ n : Nat, -(100000 * (n : Int)) ≤ minS f n ∧ minS f n ≤ 0
  | 0 => by simp [minS]
  | n + 1 => by
    have h1 := minS_bound h n
    have h2 := h ((n + 1 : Nat) : Int)
    rw [minS]
    omega
theorem piece_round {f : Int → Int} (hf : ∀ k, -100000 ≤ f k ∧ f k ≤ 100000) (n : Nat) (hn : n < 12) (bd : Int) (hb : -10000000 ≤ bd ∧ bd ≤ 10000000) :
    (bd - min (f ((n + 1 : Nat) : Int)) 0, normT f (n + 1)) = (if f ((n + 1 : Nat) : Int) > 0 then (bd, normT f n ++ [⟨f ((n + 1 : Nat) : Int), ((n + 1 : Nat) : Int)⟩]) else if f ((n + 1 : Nat) : Int) < 0 then (bd - f ((n + 1 : Nat) : Int), normT f n ++ [⟨-f ((n + 1 : Nat) : Int), -((n + 1 : Nat) : Int)⟩]) else (bd, normT f n)) := by
  rw [normT]
  unfold piece
  split
  · rw [show min (f ((n + 1 : Nat) : Int)) 0 = 0 by omega]; simp
  · split
    · rw [show min (f ((n + 1 : Nat) : Int)) 0 = f ((n + 1 : Nat) : Int) by omega]
    · rw [show min (f ((n + 1 : Nat) : Int)) 0 = 0 by omega]; simp
theorem s_norm {ts : List Term} (hts : ∀ t ∈ ts, okLit t) (hl : ts.length ≤ 100) (bd : Int) (hb : -300000 ≤ bd ∧ bd ≤ 300000) : s_l1Normal (rowN ts) bd = some (validC ⟨normT (netF ts) 12, max 0 (bd - minS (netF ts) 12)⟩) := by
  unfold s_l1Normal
  have e : cntF 1 (12 + 1) = some 12 := by rw [cntF_of (s := 1) (by omega) (by omega)]; congr 1
  have hf := fun k => netF_bound hts hl k
  rw [e, Option.bind_some]
  have := count_to (b := s_l1Normal_b1 (rowN ts)) (fun i => (bd - minS (netF ts) (i - 1), normT (netF ts) (i - 1))) 12 1 (by
    intro i h1 h2
    obtain ⟨n, rfl⟩ : ∃ n, i = n + 1 := ⟨i - 1, by omega⟩
    simp only [Nat.add_sub_cancel]
    have hm := minS_bound hf n
    have hfn := hf ((n + 1 : Nat) : Int)
    have hnl := normT_len (netF ts) n
    have e2 : (bd - minS (netF ts) (n + 1), normT (netF ts) (n + 1)) = (bd - minS (netF ts) n - min (netF ts ((n + 1 : Nat) : Int)) 0, normT (netF ts) (n + 1)) := by rw [minS]; congr 1; omega
    rw [e2, piece_round hf n (by omega) _ (by omega), s_l1Normal_b1, idx_nat, rowN_get _ _ (by omega), Option.bind_some]
    by_cases c1 : netF ts ((n + 1 : Nat) : Int) > 0
    · have c2 : ¬ netF ts ((n + 1 : Nat) : Int) < 0 := by omega
      simp only [c1, c2, decide_true, decide_false, if_true, Bool.false_eq_true, if_false]
      rw [app_le (by simp; omega)]
      rfl
    · by_cases c2 : netF ts ((n + 1 : Nat) : Int) < 0
      · simp only [c1, c2, decide_true, decide_false, if_true, Bool.false_eq_true, if_false, Option.bind_some]
        rw [app_le (by simp; omega), i64_id (n := -netF ts ((n + 1 : Nat) : Int)) (by omega) (by omega), i64_id (n := -((n + 1 : Nat) : Int)) (by omega) (by omega), Option.bind_some, i64_id (by omega) (by omega)]
        rfl
      · simp only [c1, c2, decide_false, Bool.false_eq_true, if_false, Option.bind_some])
  have e0 : (bd, ([] : List Term)) = (bd - minS (netF ts) (1 - 1), normT (netF ts) (1 - 1)) := by simp [minS, normT]
  rw [e0, this, Option.bind_some]
  simp only [show 1 + 12 - 1 = 12 from rfl]
  have hnl := normT_len (netF ts) 12
  have em : (if decide (bd - minS (netF ts) 12 < 0) then (some 0) else (some (bd - minS (netF ts) 12)) : Option Int) = some (max 0 (bd - minS (netF ts) 12)) := by
    by_cases h : bd - minS (netF ts) 12 < 0
    · rw [if_pos (decide_eq_true h)]; congr 1; omega
    · rw [if_neg (by simpa using h)]; congr 1; omega
  rw [em, Option.bind_some, s_valid _ (by unfold ML; simp only; omega), Option.bind_some, validC]
  cases okCon ⟨normT (netF ts) 12, max 0 (bd - minS (netF ts) 12)⟩ <;> rfl
def addC (a b : Con) : Con × Bool := if okCon a && okCon b then normC (a.terms ++ b.terms) (a.bound + b.bound) else (zeroC, false)
theorem okT_okLit {t : Term} (h : okT t = true) : okLit t := by
  have := okT_lit h
  exact ⟨okT_lit12 h, by omega, by omega⟩
theorem add_parts {a b : Con} (ha : okCon a = true) (hb : okCon b = true) : (∀ t ∈ a.terms ++ b.terms, okLit t) ∧ (a.terms ++ b.terms).length ≤ 24 := by
  obtain ⟨_, a2, a3, _⟩ := okCon_parts ha
  obtain ⟨_, b2, b3, _⟩ := okCon_parts hb
  refine ⟨fun t ht => ?_, by simp; omega⟩
  rcases List.mem_append.1 ht with h | h
  · exact okT_okLit (a3 t h)
  · exact okT_okLit (b3 t h)
theorem s_add (a b : Con) (ha : a.terms.length ≤ ML) (hb : b.terms.length ≤ ML) : s_AddConstraints a b = some (addC a b) := by
  unfold s_AddConstraints addC
  rw [s_valid a ha, Option.bind_some]
  cases h1 : okCon a with
  | false => rfl
  | true =>
    rw [s_valid b hb]
    cases h2 : okCon b with
    | false => rfl
    | true =>
      obtain ⟨g1, g2⟩ := add_parts h1 h2
      have hns := negS_bound g1 (by omega)
      obtain ⟨_, a2, a3, a4, a5⟩ := okCon_parts h1
      obtain ⟨_, b2, b3, b4, b5⟩ := okCon_parts h2
      simp only [Bool.not_true, Bool.false_eq_true, if_false, Option.bind_some, Bool.and_self, if_true]
      rw [app_le (by simp; omega), Option.bind_some, List.nil_append, app_le (by omega), Option.bind_some, i64_id (by omega) (by omega)]
      unfold s_l1Net
      rw [mkRow0, Option.bind_some, net_loop (b := s_l1Net_b1) _ _ g1 (by omega) (by omega) s_net_round, Option.bind_some]
      simp only [Option.bind_some]
      rw [s_norm g1 (by omega) _ (by omega)]
      rfl
def xv (v : List Bool) (k : Int) : Bool := v.getD (k - 1).toNat false
def sumK (g : Int → Int) : Nat → Int
  | 0 => 0
  | n + 1 => sumK g n + g ((n + 1 : Nat) : Int)
theorem sumK_add (f g : Int → Int) : ∀ n, sumK (fun k => f k + g k) n = sumK f n + sumK g n
  | 0 => rfl
  | n + 1 => by rw [sumK, sumK, sumK, sumK_add f g n]; omega
theorem sumK_one (g : Int → Int) (j : Nat) (hj : 1 ≤ j) : ∀ n, (∀ k : Nat, k ≠ j → g (k : Int) = 0) → sumK g n = if j ≤ n then g (j : Int) else 0
  | 0, _ => by rw [sumK, if_neg (by omega)]
  | n + 1, h => by
    rw [sumK, sumK_one g j hj n h]
    by_cases e : j = n + 1
    · subst e
      rw [if_neg (by omega), if_pos (Nat.le_refl _)]; omega
    · rw [h (n + 1) (by omega)]
      by_cases h2 : j ≤ n
      · rw [if_pos h2, if_pos (by omega)]; omega
      · rw [if_neg h2, if_neg (by omega)]; rfl
theorem sumK_zero (n : Nat) : sumK (fun _ => 0) n = 0 := by
  induction n with
  | zero => rfl
  | succ n ih => rw [sumK, ih]; rfl
theorem trueL_xv (v : List Bool) (k : Int) (h : 0 < k) : trueL v k = xv v k ∧ trueL v (-k) = !xv v k := by
  unfold trueL xv
  rw [if_pos h, if_neg (by omega), Int.neg_neg]
  exact ⟨rfl, rfl⟩
theorem net_sum (v : List Bool) : ∀ (ts : List Term), (∀ t ∈ ts, okLit t) → sumV v ts = sumK (fun k => if xv v k then netF ts k else 0) 12 + negS ts
  | [], _ => by
    have : (fun k => if xv v k then netF [] k else 0) = fun _ => (0 : Int) := by funext k; simp [netF, sumR]
    rw [this, sumK_zero]
    rfl
  | t :: ts, h => by
    have ih := net_sum v ts fun u hu => h u (by simp [hu])
    obtain ⟨⟨h0, h1, h2⟩, _, _⟩ := h t (by simp)
    have e : (fun k => if xv v k then netF (t :: ts) k else 0) = fun k => (if xv v k then con1 k t else 0) + (if xv v k then netF ts k else 0) := by
      funext k
      show (if xv v k then con1 k t + netF ts k else 0) = _
      cases xv v k <;> simp
    rw [e, sumK_add]
    show (if trueL v t.lit then t.coef else 0) + sumV v ts = _ + ((if t.lit < 0 then t.coef else 0) + negS ts)
    obtain ⟨j, hj⟩ : ∃ j : Nat, absI t.lit = (j : Int) := ⟨(absI t.lit).toNat, by unfold absI; omega⟩
    unfold absI at hj
    have hz : ∀ k : Nat, k ≠ j → con1 (k : Int) t = 0 := fun k hk => by
      unfold con1
      rw [if_neg (by omega), if_neg (by omega)]
    rw [sumK_one _ j (by omega) 12 fun k hk => by rw [hz k hk]; simp, if_pos (c := j ≤ 12) (by omega)]
    by_cases hp : t.lit > 0
    · have ej : t.lit = (j : Int) := by omega
      have hc : con1 (j : Int) t = t.coef := by unfold con1; rw [if_pos ej]
      rw [hc, ej, (trueL_xv v (j : Int) (by omega)).1, if_neg (c := (j : Int) < 0) (by omega)]
      omega
    · have ej : t.lit = -(j : Int) := by omega
      have hc : con1 (j : Int) t = -t.coef := by unfold con1; rw [if_neg (by omega), if_pos ej]
      rw [hc, ej, (trueL_xv v (j : Int) (by omega)).2, if_pos (c := -(j : Int) < 0) (by omega)]
      cases xv v (j : Int) <;> simp <;> omega
theorem sumV_app (v : List Bool) (xs ys : List Term) : sumV v (xs ++ ys) = sumV v xs + sumV v ys := by
  unfold sumV
  induction xs with
  | nil => simp [sumR]
  | cons t xs ih => rw [List.cons_append, sumR, ih, sumR]; omega
theorem piece_sum (v : List Bool) (f : Int → Int) (k : Int) (hk : 0 < k) : sumV v (piece f k) = (if xv v k then f k else 0) - min (f k) 0 := by
  have ht := trueL_xv v k hk
  generalize hy : f k = y
  unfold piece
  rw [hy]
  split
  · simp only [sumV, sumR]
    rw [ht.1]
    omega
  · split
    · simp only [sumV, sumR]
      rw [ht.2]
      cases xv v k <;> simp <;> omega
    · simp only [sumV, sumR]
      split <;> omega
theorem norm_sum (v : List Bool) (f : Int → Int) : ∀ n, sumV v (normT f n) = sumK (fun k => if xv v k then f k else 0) n - minS f n
  | 0 => rfl
  | n + 1 => by
    rw [normT, sumV_app, norm_sum v f n, sumK, minS]
    have e := piece_sum v f ((n + 1 : Nat) : Int) (by omega)
    omega
theorem sumV_nonneg (v : List Bool) : ∀ (ts : List Term), (∀ t ∈ ts, okT t = true) → 0 ≤ sumV v ts := fun ts h => (sumV_bound v ts h).1
theorem normC_ok {ts : List Term} (hts : ∀ t ∈ ts, okLit t) {bound : Int} {d : Con} (h : normC ts bound = (d, true)) : okCon d = true ∧ ∀ v, sumV v ts ≥ bound → evalC d v = true := by
  unfold normC validC at h
  split at h
  · rename_i hd
    simp only [Prod.mk.injEq, and_true] at h
    subst h
    refine ⟨hd, fun v hv => ?_⟩
    have hn := sumV_nonneg v _ (okCon_parts hd).2.2.1
    have h1 := norm_sum v (netF ts) 12
    have h2 := net_sum v ts hts
    unfold evalC
    simp only at hn ⊢
    simp
    omega
  · cases h
theorem addC_ok {a b d : Con} (h : addC a b = (d, true)) : okCon d = true ∧ ∀ v, evalC a v = true → evalC b v = true → evalC d v = true := by
  unfold addC at h
  split at h
  · rename_i hc
    rw [Bool.and_eq_true] at hc
    obtain ⟨g1, g2⟩ := add_parts hc.1 hc.2
    obtain ⟨h1, h2⟩ := normC_ok g1 h
    refine ⟨h1, fun v ha hb => h2 v ?_⟩
    unfold evalC at ha hb
    simp at ha hb
    rw [sumV_app]
    omega
  · cases h
end Go.L
namespace Go.L
open Go Go.E
set_option linter.unusedVariables false
set_option linter.unusedSimpArgs false
set_option maxRecDepth 100000
theorem equal_list {α : Type} [DecidableEq α] (s1 s2 : List α) {b : Nat → α → Unit → Option (Lo Unit Bool)} (hb : ∀ (i : Nat) x, b i x () = (idx s2 (i : Int)).bind fun y => if decide (x = y) then some (.cont ()) else some (.out false)) (hl : s1.length = s2.length) :
    rangeL b s1 0 () = some (if decide (s1 = s2) then .nx () else .out false) := by
  rw [range_allI (fun i x => decide (s2[i]? = some x)) false s1 fun i x hx => by
    have hi := (List.getElem?_eq_some_iff.1 hx).1
    have h2 : i < s2.length := by omega
    rw [hb, idx_nat, List.getElem?_eq_getElem h2, Option.bind_some]
    by_cases h : x = s2[i]
    · simp [h]
    · simp [h, Ne.symm h]]
  congr 2
  have : allFrom (fun i x => decide (s2[i]? = some x)) s1 0 = decide (s1 = s2) := by
    rw [Bool.eq_iff_iff, allFrom_iff]
    simp only [decide_eq_true_eq, Nat.zero_add]
    constructor
    · intro h
      apply List.ext_getElem?
      intro i
      cases h1 : s1[i]? with
      | some x => rw [h i x h1]
      | none => rw [List.getElem?_eq_none_iff] at h1; rw [List.getElem?_eq_none (by omega)]
    · intro h i x hx
      rw [← h]; exact hx
  rw [this]
theorem i_equal (s1 s2 : List Term) : slices_Equal_implTerm s1 s2 = some (decide (s1 = s2)) := by
  unfold slices_Equal_implTerm
  by_cases hl : s1.length = s2.length
  · rw [if_neg (by simp [hl]), equal_list s1 s2 (b := slices_Equal_implTerm_b1 s2) (fun i x => by
      rw [slices_Equal_implTerm_b1]
      congr 1
      funext y
      by_cases h : x = y <;> simp [h]) hl]
    by_cases h : s1 = s2 <;> simp [h]
  · rw [if_pos (by simp; omega), decide_eq_false (by intro h; rw [h] at hl; exact hl rfl)]
theorem i_same (a b : Con) : i_ConstraintSame a b = some (decide (a = b)) := by
  unfold i_ConstraintSame
  rw [i_equal]
  obtain ⟨t1, b1⟩ := a
  obtain ⟨t2, b2⟩ := b
  by_cases h1 : b1 = b2
  · by_cases h2 : t1 = t2 <;> simp [h1, h2]
  · simp [h1]
def noC (c : Con) : Bool := ((c.terms.length : Int) == 0) && (c.bound == 0)
def partsB (s : Step) : Bool :=
  if s.kind = 1 ∨ s.kind = 2 ∨ s.kind = 3 ∨ s.kind = 5 then noC s.given
  else if s.kind = 4 ∨ s.kind = 6 ∨ s.kind = 8 then noC s.given && s.b == 0
  else if s.kind = 7 then s.a == 0 && s.b == 0 else false
theorem kind_cases (k : Int) : k = 1 ∨ k = 2 ∨ k = 3 ∨ k = 4 ∨ k = 5 ∨ k = 6 ∨ k = 7 ∨ k = 8 ∨ (k ≠ 1 ∧ k ≠ 2 ∧ k ≠ 3 ∧ k ≠ 4 ∧ k ≠ 5 ∧ k ≠ 6 ∧ k ≠ 7 ∧ k ≠ 8) := by omega
theorem noC_eq (c : Con) : decide (c = ⟨[], 0⟩) = noC c := by
  obtain ⟨ts, b⟩ := c
  unfold noC
  cases ts with
  | nil => by_cases h : b = 0 <;> simp [h]
  | cons t ts => simp; omega
theorem s_parts (s : Step) : s_l4Parts s = some (partsB s) := by
  unfold s_l4Parts partsB noC
  obtain ⟨kind, a, b, given⟩ := s
  simp only
  rcases kind_cases kind with h | h | h | h | h | h | h | h | ⟨h1, h2, h3, h4, h5, h6, h7, h8⟩
  all_goals first | (subst h; simp) | simp [h1, h2, h3, h4, h5, h6, h7, h8]
def refersB (k : Int) : Int × Bool := if k = 1 then (2, false) else if k = 2 ∨ k = 3 ∨ k = 5 then (1, true) else if k = 4 ∨ k = 8 then (1, false) else if k = 6 ∨ k = 7 then (0, false) else (-1, false)
theorem i_ref (k : Int) : i_refers k = some (refersB k) := by
  unfold i_refers refersB
  rcases kind_cases k with h | h | h | h | h | h | h | h | ⟨h1, h2, h3, h4, h5, h6, h7, h8⟩
  all_goals first | (subst h; simp) | simp [h1, h2, h3, h4, h5, h6, h7, h8]
theorem i_shaped (s : Step) : i_Step_shaped s = some (partsB s) := by
  unfold i_Step_shaped partsB
  rw [i_ref, i_same, noC_eq, Option.bind_some]
  obtain ⟨kind, a, b, given⟩ := s
  simp only [refersB]
  rcases kind_cases kind with h | h | h | h | h | h | h | h | ⟨h1, h2, h3, h4, h5, h6, h7, h8⟩
  all_goals first | (subst h; (by_cases ha : a = 0) <;> (by_cases hb : b = 0) <;> simp [ha, hb]) | simp [h1, h2, h3, h4, h5, h6, h7, h8]
structure OkDb (d : Db) : Prop where
  len : d.gone.length = d.list.length
  ok : ∀ c ∈ d.list, okCon c = true
  big : d.list.length ≤ 2000
def liveD (d : Db) (k : Int) : Bool := decide (0 ≤ k) && (decide (k < (d.list.length : Int)) && !(d.gone.getD k.toNat true))
def keptL : List Con → List Bool → List Con
  | c :: cs, g :: gs => if g then keptL cs gs else c :: keptL cs gs
  | _, _ => []
def keptD (d : Db) : List Con := keptL d.list d.gone
theorem idx_b {gs : List Bool} {k : Int} (h0 : 0 ≤ k) (h1 : k < (gs.length : Int)) : idx gs k = some (gs.getD k.toNat true) := by
  have hl : k.toNat < gs.length := by omega
  rw [idx_get h0 hl, List.getD_eq_getElem?_getD, List.getElem?_eq_getElem hl]
  rfl
theorem s_live {d : Db} (hd : OkDb d) (k : Int) : s_l4Live d k = some (liveD d k) := by
  unfold s_l4Live liveD
  by_cases h0 : 0 ≤ k
  · by_cases h1 : k < (d.list.length : Int)
    · rw [idx_b h0 (by rw [hd.len]; exact h1)]
      simp [h0, h1]
    · simp [h0, h1]
  · simp [h0]
theorem keptL_snoc : ∀ (cs : List Con) (gs : List Bool) (c : Con) (g : Bool), gs.length = cs.length → keptL (cs ++ [c]) (gs ++ [g]) = keptL cs gs ++ (if g then [] else [c])
  | [], [], c, g, _ => by cases g <;> rfl
  | [], _ :: _, _, _, h => by simp at h
  | _ :: _, [], _, _, h => by simp at h
  | x :: cs, y :: gs, c, g, h => by
    have := keptL_snoc cs gs c g (by simpa using h)
    cases y <;> simp [keptL, this]
theorem keptL_len : ∀ (cs : List Con) (gs : List Bool), (keptL cs gs).length ≤ cs.length
  | [], _ => by simp [keptL]
  | _ :: _, [] => by simp [keptL]
  | x :: cs, y :: gs => by
    have := keptL_len cs gs
    cases y <;> simp [keptL] <;> omega
theorem keptL_mem : ∀ (cs : List Con) (gs : List Bool), ∀ c ∈ keptL cs gs, c ∈ cs
  | [], _, c, h => by simp [keptL] at h
  | _ :: _, [], c, h => by simp [keptL] at h
  | x :: cs, y :: gs, c, h => by
    rw [keptL] at h
    split at h
    · exact List.mem_cons_of_mem _ (keptL_mem cs gs c h)
    · rcases List.mem_cons.1 h with rfl | h
      · exact List.mem_cons_self
      · exact List.mem_cons_of_mem _ (keptL_mem cs gs c h)
theorem kept_loop {τ : Type} {d : Db} (hd : OkDb d) {b : Nat → Con → List Con → Option (Lo (List Con) τ)} (hb : ∀ (i : Nat) c out, b i c out = (idx d.gone (i : Int)).bind fun g => ((if (!g) then ((app out ([c])).bind fun x => some x) else (some out)) : Option (List Con)).bind fun o => some (.cont o)) :
    rangeL b d.list 0 [] = some (.nx (keptD d)) := by
  have hbig := hd.big
  have := range_to (b := b) (fun i => keptL (d.list.take i) (d.gone.take i)) d.list (by
    intro i c hc
    have hi := (List.getElem?_eq_some_iff.1 hc).1
    have hg : d.gone[i]? = some (d.gone.getD i true) := by
      have hl : i < d.gone.length := by rw [hd.len]; exact hi
      rw [List.getD_eq_getElem?_getD, List.getElem?_eq_getElem hl]; rfl
    have hk := keptL_len (d.list.take i) (d.gone.take i)
    rw [hb, idx_nat, hg, Option.bind_some, take_snoc hc, take_snoc hg, keptL_snoc _ _ _ _ (by simp [hd.len])]
    have hl : (d.list.take i).length ≤ 2000 := by simp; omega
    cases d.gone.getD i true with
    | true => simp
    | false => rw [app_le (by simp; omega)]; simp)
  have e0 : keptL (d.list.take 0) (d.gone.take 0) = [] := rfl
  rw [e0] at this
  rw [this, List.take_length, ← hd.len, List.take_length]
  rfl
theorem s_kept {d : Db} (hd : OkDb d) : s_l4Kept d = some (keptD d) := by
  unfold s_l4Kept
  rw [kept_loop hd (b := s_l4Kept_b1 d) fun _ _ _ => rfl]
  rfl
def getC (d : Db) (k : Int) : Con := d.list.getD k.toNat zeroC
def deriveD (d : Db) (s : Step) : Con × Bool :=
  if s.kind = 6 then litC s.a
  else if s.kind = 7 then (s.given, okCon s.given && rupB (keptD d) s.given)
  else if liveD d s.a = false then (zeroC, false)
  else if s.kind = 1 then if liveD d s.b = false then (zeroC, false) else addC (getC d s.a) (getC d s.b)
  else if s.kind = 2 then mulC (getC d s.a) s.b
  else if s.kind = 3 then divC (getC d s.a) s.b
  else if s.kind = 4 then satC (getC d s.a)
  else weakC (getC d s.a) s.b
def pushD (d : Db) (c : Con) : Db := ⟨d.list ++ [c], d.gone ++ [false]⟩
def stepD (d : Db) (s : Step) : Option Db :=
  if partsB s = false then none
  else if s.kind = 8 then if liveD d s.a then some ⟨d.list, d.gone.set s.a.toNat true⟩ else none
  else if (deriveD d s).2 then some (pushD d (deriveD d s).1) else none
theorem live_idx {d : Db} (hd : OkDb d) {k : Int} (h : liveD d k = true) : idx d.list k = some (getC d k) ∧ okCon (getC d k) = true ∧ 0 ≤ k ∧ k < (d.list.length : Int) ∧ d.gone.getD k.toNat true = false := by
  unfold liveD at h
  simp at h
  obtain ⟨h0, h1, h2⟩ := h
  have hl : k.toNat < d.list.length := by omega
  have e : getC d k = d.list[k.toNat] := by unfold getC; rw [List.getD_eq_getElem?_getD, List.getElem?_eq_getElem hl]; rfl
  refine ⟨?_, ?_, h0, h1, by simpa using h2⟩
  · rw [idx_get h0 hl, e]
  · rw [e]; exact hd.ok _ (List.getElem_mem hl)
theorem kept_ok {d : Db} (hd : OkDb d) : (∀ c ∈ keptD d, okCon c = true) ∧ (keptD d).length ≤ 2000 := by
  have h1 := keptL_len d.list d.gone
  have := hd.big
  exact ⟨fun c hc => hd.ok c (keptL_mem _ _ c hc), by unfold keptD; omega⟩
theorem deriveD_ok {d : Db} (hd : OkDb d) {s : Step} {c : Con} (h : deriveD d s = (c, true)) : okCon c = true := by
  unfold deriveD at h
  split at h
  · exact (litC_ok h).1
  split at h
  · simp at h; rw [← h.1]; exact h.2.1
  split at h
  · cases h
  split at h
  · split at h
    · cases h
    · exact (addC_ok h).1
  split at h
  · exact (mulC_ok h).1
  split at h
  · exact (divC_ok h).1
  split at h
  · exact (satC_ok h).1
  · exact (weakC_ok h).1
theorem okML {c : Con} (h : okCon c = true) : c.terms.length ≤ ML := by
  have := (okCon_parts h).2.1
  unfold ML; omega
theorem copy_eq (c : Con) (hc : c.terms.length ≤ 4000000) : s_l1Copy c = some c := by
  unfold s_l1Copy
  rw [app_le (by simp; omega)]
  rfl
theorem s_derive (fu : Nat) (hf : FU ≤ fu) {d : Db} (hd : OkDb d) (s : Step) (hs : s.given.terms.length ≤ 4000000) : s_l4Derive fu d s = some (deriveD d s) := by
  unfold s_l4Derive deriveD
  by_cases h6 : s.kind = 6
  · simp [h6, s_lit]
  by_cases h7 : s.kind = 7
  · simp only [h7]
    rw [copy_eq _ hs, s_valid _ (by unfold ML; omega)]
    obtain ⟨k1, k2⟩ := kept_ok hd
    cases hv : okCon s.given with
    | false => simp [hv]
    | true => simp [s_kept hd, s_rup fu hf k1 (by omega) hv]
  simp only [h6, h7]
  rw [s_live hd]
  cases hl : liveD d s.a with
  | false => simp [zeroC, h6, h7]
  | true =>
    obtain ⟨a1, a2, a3, a4, _⟩ := live_idx hd hl
    have a5 := okML a2
    by_cases h1 : s.kind = 1
    · simp only [h1]
      rw [s_live hd]
      cases hm : liveD d s.b with
      | false => simp [a1, zeroC, h6, h7]
      | true =>
        obtain ⟨b1, b2, b3, b4, _⟩ := live_idx hd hm
        simp [h6, h7, a1, b1, s_add _ _ a5 (okML b2)]
    · by_cases h2 : s.kind = 2
      · simp [h6, h7, h2, a1, s_mul _ _ a5]
      · by_cases h3 : s.kind = 3
        · simp [h6, h7, h3, a1, s_div _ _ a5]
        · by_cases h4 : s.kind = 4
          · simp [h6, h7, h4, a1, s_sat fu hf _ a5]
          · simp [h6, h7, h1, h2, h3, h4, a1, s_weak _ _ a5]
end Go.L
namespace Go.L
open Go Go.E
set_option linter.unusedVariables false
set_option linter.unusedSimpArgs false
set_option maxRecDepth 100000
theorem stepD_ok {d d' : Db} (hd : OkDb d) (hb : d.list.length < 2000) {s : Step} (h : stepD d s = some d') : OkDb d' ∧ d'.list.length ≤ d.list.length + 1 := by
  unfold stepD at h
  split at h
  · cases h
  split at h
  · split at h
    · cases h
      exact ⟨⟨by simp [hd.len], hd.ok, hd.big⟩, by simp⟩
    · cases h
  · split at h
    · rename_i hok
      cases h
      have hc := deriveD_ok hd (s := s) (c := (deriveD d s).1) (by rw [← hok])
      refine ⟨⟨by simp [pushD, hd.len], ?_, by simp [pushD]; omega⟩, by simp [pushD]⟩
      intro c hc'
      rcases List.mem_append.1 hc' with h | h
      · exact hd.ok c h
      · rw [List.mem_singleton] at h; subst h; exact hc
    · cases h
theorem s_step (fu : Nat) (hf : FU ≤ fu) (list : List Con) {d : Db} (hd : OkDb d) (i : Nat) (s : Step) (hs : s.given.terms.length ≤ 4000000) :
    s_l4Run_b1 fu list i s (d.list, d.gone) = some (match stepD d s with | some d' => .cont (d'.list, d'.gone) | none => .out (d, (i : Int))) := by
  have hbig := hd.big
  have hlen := hd.len
  obtain ⟨l, g⟩ := d
  simp only at hbig hlen ⊢
  rw [s_l4Run_b1, s_parts]
  unfold stepD
  cases hp : partsB s with
  | false => simp
  | true =>
    by_cases h8 : s.kind = 8
    · simp only [h8]
      rw [s_live hd]
      cases hl : liveD ⟨l, g⟩ s.a with
      | false => simp
      | true =>
        obtain ⟨_, _, a3, a4, _⟩ := live_idx hd hl
        rw [idx_b (gs := g) a3 (by rw [hlen]; exact a4)]
        simp
    · rw [s_derive fu hf hd s hs]
      cases hok : (deriveD ⟨l, g⟩ s).2 with
      | false => simp [h8, hok]
      | true =>
        simp only [Option.bind_some, h8, hok]
        rw [app_le (by simp; omega), Option.bind_some, app_le (by simp; omega)]
        simp [pushD, h8]
def runD : Db → List Step → Nat → Db × Int
  | d, [], _ => (d, -1)
  | d, s :: ss, i => match stepD d s with
    | some d' => runD d' ss (i + 1)
    | none => (d, (i : Int))
theorem runD_at : ∀ (ss : List Step) (d : Db) (i : Nat), (runD d ss i).2 = -1 ∨ ((i : Int) ≤ (runD d ss i).2 ∧ (runD d ss i).2 < (i : Int) + ss.length)
  | [], d, i => .inl rfl
  | s :: ss, d, i => by
    rw [runD]
    cases stepD d s with
    | none => simp only [List.length_cons]; right; omega
    | some d' =>
      have := runD_at ss d' (i + 1)
      simp only [List.length_cons]
      omega
theorem runD_ok : ∀ (ss : List Step) (d : Db) (i : Nat), OkDb d → d.list.length + ss.length ≤ 2000 → OkDb (runD d ss i).1 ∧ (runD d ss i).1.list.length ≤ d.list.length + ss.length
  | [], d, i, h, _ => ⟨h, Nat.le_refl _⟩
  | s :: ss, d, i, h, hl => by
    simp only [List.length_cons] at *
    rw [runD]
    cases he : stepD d s with
    | none => exact ⟨h, by simp only; omega⟩
    | some d' =>
      obtain ⟨h1, h2⟩ := stepD_ok h (by omega) he
      have := runD_ok ss d' (i + 1) h1 (by omega)
      exact ⟨this.1, by have := this.2; simp only; omega⟩
theorem s_run_loop (fu : Nat) (hf : FU ≤ fu) (list : List Con) : ∀ (ss : List Step) (d : Db) (i : Nat), OkDb d → d.list.length + ss.length ≤ 2000 → (∀ s ∈ ss, s.given.terms.length ≤ 4000000) →
    rangeL (s_l4Run_b1 fu list) ss i (d.list, d.gone) = some (if (runD d ss i).2 < 0 then .nx ((runD d ss i).1.list, (runD d ss i).1.gone) else .out (runD d ss i))
  | [], d, i, _, _, _ => rfl
  | s :: ss, d, i, h, hl, hs => by
    simp only [List.length_cons] at *
    show (s_l4Run_b1 fu list i s (d.list, d.gone)).bind _ = _
    rw [s_step fu hf list h i s (hs s (by simp)), runD]
    cases he : stepD d s with
    | none => simp
    | some d' =>
      obtain ⟨h1, h2⟩ := stepD_ok h (by omega) he
      simpa using s_run_loop fu hf list ss d' (i + 1) h1 (by omega) fun x hx => hs x (by simp [hx])
def initD (list : List Con) : Db := ⟨list, List.replicate list.length false⟩
theorem initD_ok {list : List Con} (h : okProb list = true) : OkDb (initD list) := by
  obtain ⟨h1, h2⟩ := okProb_parts h
  exact ⟨by simp [initD], h1, by simp [initD]; omega⟩
def fitsB (list : List Con) (steps : List Step) : Bool := okProb list && decide ((steps.length : Int) ≤ 1000)
theorem fits_parts {list : List Con} {steps : List Step} (h : fitsB list steps = true) : okProb list = true ∧ list.length ≤ 400 ∧ steps.length ≤ 1000 := by
  unfold fitsB at h
  rw [Bool.and_eq_true] at h
  have := of_decide_eq_true h.2
  exact ⟨h.1, (okProb_parts h.1).2, by omega⟩
def runL (list : List Con) (steps : List Step) : Db × Int := runD (initD list) steps 0
theorem s_fits (list : List Con) (steps : List Step) (hl : ∀ c ∈ list, c.terms.length ≤ ML) : s_l4Fits list steps = some (fitsB list steps) := by
  unfold s_l4Fits fitsB
  rw [s_problem list hl]
  rfl
theorem s_run (fu : Nat) (hf : FU ≤ fu) {list : List Con} {steps : List Step} (h : fitsB list steps = true) (hs : ∀ s ∈ steps, s.given.terms.length ≤ 4000000) : s_l4Run fu list steps = some (runL list steps) := by
  obtain ⟨h1, h2, h3⟩ := fits_parts h
  unfold s_l4Run
  rw [app_le (by simp; omega), Option.bind_some, mkN_le (n := list.length) false (by omega), Option.bind_some, List.nil_append]
  have := s_run_loop fu hf list steps (initD list) 0 (initD_ok h1) (by simp [initD]; omega) hs
  simp only [initD] at this
  rw [this, Option.bind_some]
  unfold runL initD
  have ha := runD_at steps ⟨list, List.replicate list.length false⟩ 0
  generalize runD ⟨list, List.replicate list.length false⟩ steps 0 = r at ha
  obtain ⟨d, a⟩ := r
  simp only at ha ⊢
  by_cases hn : a < 0
  · have : a = -1 := by omega
    simp [hn, this]
  · simp [hn]
theorem runL_ok {list : List Con} {steps : List Step} (h : fitsB list steps = true) : OkDb (runL list steps).1 ∧ (runL list steps).1.list.length ≤ list.length + steps.length := by
  obtain ⟨h1, h2, h3⟩ := fits_parts h
  exact runD_ok steps (initD list) 0 (initD_ok h1) (by simp [initD]; omega)
end Go.L
namespace Go.L
open Go Go.E
set_option linter.unusedVariables false
set_option linter.unusedSimpArgs false
set_option maxRecDepth 100000
def lens (steps : List Step) : Prop := ∀ s ∈ steps, s.given.terms.length ≤ 4000000
def lensC (list : List Con) : Prop := ∀ c ∈ list, c.terms.length ≤ ML
def runP (list : List Con) (steps : List Step) : List Con × Int :=
  if fitsB list steps then if (runL list steps).2 < 0 then (keptD (runL list steps).1, -1) else ([], (runL list steps).2) else ([], 0)
theorem copies {τ : Type} {b : Nat → Con → List Con → Option (Lo (List Con) τ)} (xs : List Con) (hx : ∀ c ∈ xs, okCon c = true) (hl : xs.length ≤ 4000) (hb : ∀ i c out, c.terms.length ≤ 4000000 → b i c out = (app out [c]).bind fun x => some (.cont x)) : rangeL b xs 0 [] = some (.nx xs) := by
  have := range_map (b := b) id xs fun i c out hc hlen => by
    have hi := (List.getElem?_eq_some_iff.1 hc).1
    rw [hb i c out (by have := (okCon_parts (hx c (List.mem_of_getElem? hc))).2.1; omega), app_le (by simp; omega)]
    rfl
  simpa using this
theorem s_runP (fu : Nat) (hf : FU ≤ fu) {list : List Con} {steps : List Step} (hl : lensC list) (hs : lens steps) : s_RunProof fu list steps = some (runP list steps) := by
  unfold s_RunProof runP
  rw [s_fits list steps hl, Option.bind_some]
  cases h : fitsB list steps with
  | false => rfl
  | true =>
    rw [s_run fu hf h hs]
    simp only [Bool.not_true, Bool.false_eq_true, if_false, Option.bind_some, if_true]
    by_cases hn : (runL list steps).2 < 0
    · have hn' : ¬ (runL list steps).2 ≥ 0 := by omega
      obtain ⟨k1, k2⟩ := kept_ok (runL_ok h).1
      rw [if_neg (by simpa using hn'), if_pos hn, s_kept (runL_ok h).1, Option.bind_some, copies (b := s_RunProof_b1) _ k1 (by omega) fun i c out hc => by rw [s_RunProof_b1, copy_eq c hc]; rfl]
      rfl
    · have hn' : (runL list steps).2 ≥ 0 := by omega
      rw [if_pos (by simpa using hn'), if_neg hn]
end Go.L
namespace Go.L
open Go Go.E
set_option linter.unusedVariables false
set_option linter.unusedSimpArgs false
set_option maxRecDepth 100000
def smS (k : Nat) (steps : List Step) : Prop := steps.length ≤ k ∧ ∀ s ∈ steps, s.given.terms.length ≤ 12
def smL (k : Nat) (list : List Con) : Prop := list.length ≤ k ∧ ∀ c ∈ list, c.terms.length ≤ 103
theorem smL_ML {k : Nat} {list : List Con} (h : smL k list) : lensC list := fun c hc => by have := h.2 c hc; unfold ML; omega
theorem smS_lens {k : Nat} {steps : List Step} (h : smS k steps) : lens steps := fun s hs => by have := h.2 s hs; omega
theorem stepDraw_ok (r : Rd) (n : Int) (hb : r.b.length ≤ 2000) (h0 : 0 ≤ r.p) (h1 : r.p + 200 ≤ PM) : So (s_l4Step r n) fun o => o.1.given.terms.length ≤ 12 ∧ r.p ≤ o.2 ∧ o.2 ≤ r.p + 50 := by
  unfold PM at h1
  have hpm : ∀ p, p ≤ r.p + 199 → p ≤ PM := fun p hp => by unfold PM; omega
  unfold s_l4Step
  refine so_bind (num_ok r _ (by simp) hb h0 (hpm _ (by omega))) fun x ⟨hx, _⟩ => so_ite (fun _ => ?_) fun _ => so_ite (fun _ => ?_) fun _ => ?_
  · refine so_bind (num_ok ⟨r.b, x.2⟩ _ (by simp) hb (by simp only; omega) (hpm _ (by simp only; omega))) fun y ⟨hy, _⟩ => so_some ?_
    simp only at hy
    exact ⟨by simp, by simp only; omega, by simp only; omega⟩
  · refine so_bind (draw_ok ⟨r.b, x.2⟩ 4 (by omega) hb (by simp only; omega) (by unfold PM; simp only; omega)) fun y ⟨a, b, c⟩ => so_some ?_
    simp only at b c
    exact ⟨a, by simp only; omega, by simp only; omega⟩
  · refine so_bind (pick_ok ⟨r.b, x.2⟩ _ hb (by simp only; omega) (hpm _ (by simp only; omega))) fun y ⟨hy, _, _⟩ => ?_
    simp only at hy
    refine so_bind (P := fun (o : Int × Int) => r.p ≤ o.1 ∧ o.1 ≤ r.p + 4) (so_ite (fun _ => ?_) fun _ => ?_) ?_
    · refine so_bind (pick_ok ⟨r.b, y.2⟩ _ hb (by simp only; omega) (hpm _ (by simp only; omega))) fun z ⟨hz, _, _⟩ => so_some ?_
      simp only at hz
      exact ⟨by simp only; omega, by simp only; omega⟩
    · refine so_bind (P := fun _ => True) (so_ite (fun _ => so_some trivial) fun _ => so_some trivial) fun t _ => ?_
      refine so_bind (P := fun (o : Int × Int) => r.p ≤ o.1 ∧ o.1 ≤ r.p + 4) (so_ite (fun _ => ?_) fun _ => ?_) fun o ho => so_some ho
      · refine so_bind (num_ok ⟨r.b, y.2⟩ _ (by simp) hb (by simp only; omega) (hpm _ (by simp only; omega))) fun z ⟨hz, _⟩ => so_some ?_
        simp only at hz
        exact ⟨by simp only; omega, by simp only; omega⟩
      · refine so_bind (P := fun (o : Int × Int) => r.p ≤ o.1 ∧ o.1 ≤ r.p + 4) (so_ite (fun _ => ?_) fun _ => so_some ⟨by simp only; omega, by simp only; omega⟩) fun o ho => so_some ho
        refine so_bind (pick_ok ⟨r.b, y.2⟩ _ hb (by simp only; omega) (hpm _ (by simp only; omega))) fun z ⟨hz, _, _⟩ => so_some ?_
        simp only at hz
        exact ⟨by simp only; omega, by simp only; omega⟩
    · rintro ⟨p, b⟩ ⟨q0, q1⟩
      simp only at q0 q1
      exact so_some ⟨by simp, by simp only; omega, by simp only; omega⟩
theorem smS_snoc {k : Nat} {steps : List Step} {s : Step} (h : smS k steps) (hs : s.given.terms.length ≤ 12) : smS (k + 1) (steps ++ [s]) := by
  refine ⟨by simp; exact h.1, fun x hx => ?_⟩
  rcases List.mem_append.1 hx with hx | hx
  · exact h.2 x hx
  · rw [List.mem_singleton] at hx; subst hx; exact hs
theorem random_ok (r : Rd) (fu : Nat) (hf : FU ≤ fu) {list : List Con} (hl : smL 100 list) (hb : r.b.length ≤ 2000) (h0 : 0 ≤ r.p) (h1 : r.p + 1000 ≤ PM) :
    So (s_l4Random fu r list) fun o => smS 8 o.1 ∧ r.p ≤ o.2 ∧ o.2 ≤ r.p + 500 := by
  unfold PM at h1
  have hf' := hf
  unfold FU at hf'
  have hpm : ∀ p, p ≤ r.p + 999 → p ≤ PM := fun p hp => by unfold PM; omega
  unfold s_l4Random
  refine so_bind (num_ok r _ (by simp) hb h0 (hpm _ (by omega))) fun y ⟨hy, hym⟩ => ?_
  have hy8 : 0 ≤ y.1 ∧ y.1 ≤ 8 := by simp at hym; omega
  refine so_bind (so_while (b := s_l4Random_b1 fu r list) (fun n (s : List Step × Int × Int) => s.2.1 = (n : Int) ∧ n ≤ 8 ∧ smS (8 - n) s.1 ∧ r.p ≤ s.2.2 ∧ s.2.2 + 52 * n ≤ r.p + 1 + 52 * y.1.toNat)
    (fun s => smS 8 s.1 ∧ r.p ≤ s.2.2 ∧ s.2.2 ≤ r.p + 500) y.1.toNat _ fu (by omega) ⟨by simp only; omega, by omega, ⟨by simp, by simp⟩, by simp only; omega, by simp only; omega⟩ ?_) ?_
  · rintro n ⟨out, i, p⟩ ⟨a, a8, b, d, e⟩
    simp only at a b d e
    subst a
    rw [s_l4Random_b1]
    refine so_ite (fun hn => ?_) fun hn => ?_
    · have hn := of_decide_eq_true hn
      have hlen := b.1
      rw [app_le (by simp; omega), Option.bind_some, List.nil_append]
      refine so_bind (stepDraw_ok ⟨r.b, p⟩ _ hb (by simp only; omega) (by unfold PM; simp only; omega)) fun s ⟨s1, s2, s3⟩ => ?_
      simp only at s2 s3
      rw [app_le (by simp; omega), Option.bind_some]
      have hsn := smS_snoc b s1
      rw [s_runP fu hf (smL_ML hl) (smS_lens hsn), Option.bind_some]
      refine so_bind (P := fun (o : Bool × Int) => r.p ≤ o.2 ∧ o.2 ≤ s.2 + 1) (so_ite (fun _ => so_some ⟨by simp only; omega, by simp only; omega⟩) fun _ => ?_) ?_
      · refine so_bind (pick_ok ⟨r.b, s.2⟩ _ hb (by simp only; omega) (hpm _ (by simp only; omega))) fun z ⟨hz, _, _⟩ => so_some ?_
        simp only at hz
        exact ⟨by simp only; omega, by simp only; omega⟩
      · rintro ⟨t, q⟩ ⟨q0, q1⟩
        simp only at q0 q1
        refine so_bind (P := fun (o : List Step) => smS (8 - (n - 1)) o) (so_ite (fun _ => so_some ?_) fun _ => so_some ?_) fun o ho => so_some (.inl ⟨_, n - 1, rfl, by omega, ?_, ?_, ?_, ?_, ?_⟩)
        · rw [show 8 - (n - 1) = 8 - n + 1 by omega]; exact hsn
        · exact ⟨by omega, b.2⟩
        · show i64 ((n : Int) - 1) = _
          rw [i64_id (by omega) (by omega)]; omega
        · omega
        · exact ho
        · simp only; omega
        · show q + 52 * ((n - 1 : Nat) : Int) ≤ _; omega
    · simp only [decide_eq_true_eq] at hn
      exact so_some (.inr ⟨_, rfl, ⟨by have := b.1; simp only; omega, b.2⟩, d, by simp only; omega⟩)
  · rintro j ⟨⟨out, i, p⟩, rfl, h⟩
    exact so_some h
theorem refuted_ok (r : Rd) (fu : Nat) (hf : FU ≤ fu) (hb : r.b.length ≤ 2000) (h0 : 0 ≤ r.p) (h1 : r.p + 3000 ≤ PM) :
    So (s_l4Refuted fu r) fun o => smL 10 o.1 ∧ smS 9 o.2.1 ∧ r.p ≤ o.2.2 ∧ o.2.2 ≤ r.p + 1000 := by
  unfold PM at h1
  have hpm : ∀ p, p ≤ r.p + 2999 → p ≤ PM := fun p hp => by unfold PM; omega
  unfold s_l4Refuted
  refine so_bind (problem_ok r fu hf hb h0 (by unfold PM; omega)) fun x ⟨x1, x2, x3, x4⟩ => ?_
  refine so_bind (pick_ok ⟨r.b, x.2⟩ _ hb (by simp only; omega) (hpm _ (by simp only; omega))) fun y ⟨hy, _, _⟩ => ?_
  simp only at hy
  rw [app_le (by simp; omega), Option.bind_some, app_le (by simp; omega), Option.bind_some]
  generalize hL : x.1 ++ [_] ++ [_] = L
  have hLs : smL 10 L := by
    subst hL
    refine ⟨by simp; omega, fun c hc => ?_⟩
    simp at hc
    rcases hc with h | h | h
    · have := x2 c h; omega
    · subst h; simp
    · subst h; simp
  have hLn : 2 ≤ L.length := by subst hL; simp
  have hl10 := hLs.1
  have e1 : sl L 0 (i64 ((L.length : Int) - 2)) = some (L.take (L.length - 2)) := by
    have := sl_pre (xs := L) (i := L.length - 2) (by omega)
    rw [i64_id (by omega) (by omega), ← this]
    congr 1
    omega
  rw [e1, Option.bind_some]
  have hT : smL 100 (L.take (L.length - 2)) := ⟨by simp; omega, fun c hc => hLs.2 c (List.mem_of_mem_take hc)⟩
  refine so_bind (random_ok ⟨r.b, y.2⟩ fu hf hT hb (by simp only; omega) (by unfold PM; simp only; omega)) fun z ⟨z1, z2, z3⟩ => ?_
  simp only at z2 z3
  rw [s_runP fu hf (smL_ML hLs) (smS_lens z1), Option.bind_some]
  refine so_bind (P := fun (o : List Step) => smS 8 o) (so_ite (fun _ => so_some ⟨by simp, by simp⟩) fun _ => so_some z1) fun steps hst => ?_
  refine so_bind (pick_ok ⟨r.b, z.2⟩ _ hb (by simp only; omega) (hpm _ (by simp only; omega))) fun w ⟨hw, _, _⟩ => ?_
  simp only at hw
  have hst1 := hst.1
  refine so_ite (fun _ => ?_) fun _ => ?_
  · rw [app_le (by simp; omega), Option.bind_some]
    exact so_some ⟨hLs, smS_snoc hst (by simp), by simp only; omega, by simp only; omega⟩
  · rw [app_le (by simp; omega), Option.bind_some]
    exact so_some ⟨hLs, smS_snoc hst (by simp), by simp only; omega, by simp only; omega⟩
theorem pair_ok (r : Rd) (fu : Nat) (hf : FU ≤ fu) (hb : r.b.length ≤ 2000) (h0 : 0 ≤ r.p) (h1 : r.p + 5000 ≤ PM) :
    So (s_l4Pair fu r) fun o => smL 10 o.1 ∧ smS 9 o.2.1 ∧ r.p ≤ o.2.2 ∧ o.2.2 ≤ r.p + 1500 := by
  unfold PM at h1
  have hpm : ∀ p, p ≤ r.p + 4999 → p ≤ PM := fun p hp => by unfold PM; omega
  unfold s_l4Pair
  refine so_bind (pick_ok r _ hb h0 (hpm _ (by omega))) fun x ⟨hx, _, _⟩ => so_ite (fun _ => ?_) fun _ => ?_
  · refine so_bind (refuted_ok ⟨r.b, x.2⟩ fu hf hb (by simp only; omega) (by unfold PM; simp only; omega)) fun y ⟨y1, y2, y3, y4⟩ => so_some ⟨y1, y2, ?_, ?_⟩
    · simp only at y3 ⊢; omega
    · simp only at y4 ⊢; omega
  · refine so_bind (problem_ok ⟨r.b, x.2⟩ fu hf hb (by simp only; omega) (by unfold PM; simp only; omega)) fun y ⟨y1, y2, y3, y4⟩ => ?_
    simp only at y3 y4
    refine so_bind (mutateP_ok ⟨r.b, y.2⟩ y.1 (by omega) (fun c hc => by have := y2 c hc; omega) hb (by simp only; omega) (by unfold PM; simp only; omega)) fun z ⟨z1, z2, z3, z4⟩ => ?_
    simp only at z3 z4
    refine so_bind (random_ok ⟨r.b, z.2⟩ fu hf ⟨by omega, z2⟩ hb (by simp only; omega) (by unfold PM; simp only; omega)) fun w ⟨w1, w2, w3⟩ => so_some ⟨⟨by simp only; omega, z2⟩, ⟨by have := w1.1; simp only; omega, w1.2⟩, ?_, ?_⟩
    · simp only at w2 ⊢; omega
    · simp only at w3 ⊢; omega
end Go.L
namespace Go.L
open Go Go.E
set_option linter.unusedSimpArgs false
set_option linter.unusedVariables false
set_option maxRecDepth 100000
theorem bend_ok (r : Rd) (l : List UInt8) (bits : List (List UInt8)) (hl : l.length ≤ 1000000) (hb0 : bits ≠ []) (hbl : ∀ w ∈ bits, w.length ≤ 10) (hb : r.b.length ≤ 2000) (h0 : 0 ≤ r.p) (h1 : r.p + 10 ≤ PM) :
    So (s_l1Bend r (bs l) (bits.map bs)) fun o => (∃ q, o.1 = bs q ∧ q.length ≤ l.length + 10) ∧ r.p ≤ o.2 ∧ o.2 ≤ r.p + 4 := by
  unfold PM at h1
  have hpm : ∀ p, p ≤ r.p + 9 → p ≤ PM := fun p hp => by unfold PM; omega
  unfold s_l1Bend
  rw [bs_size]
  refine so_bind (P := fun (o : Bool × Int) => (o.1 = false → 1 ≤ l.length) ∧ r.p ≤ o.2 ∧ o.2 ≤ r.p + 1) (so_ite (fun _ => so_some ⟨by simp, by simp only; omega, by simp only; omega⟩) fun hc => ?_) fun o ⟨o1, o2, o3⟩ => so_ite (fun _ => so_some ⟨⟨l, rfl, by omega⟩, by simp only; omega, by simp only; omega⟩) fun hc => ?_
  · simp only [beq_iff_eq] at hc
    exact so_bind (pick_ok r 2 hb h0 (hpm _ (by omega))) fun x ⟨hx, _, _⟩ => so_some ⟨fun _ => by omega, by simp only; omega, by simp only; omega⟩
  have hl1 := o1 (by simpa using hc)
  refine so_bind (pick_ok ⟨r.b, o.2⟩ _ hb (by simp only; omega) (hpm _ (by simp only; omega))) fun k ⟨hk, k0, k1⟩ => ?_
  simp only at hk
  have k1 := k1 (by omega)
  rw [ssl_bs (by omega) k0 (by omega), Option.bind_some]
  refine so_bind (P := fun (o : ByteArray × Int) => (∃ w, o.1 = bs w ∧ w.length ≤ 10) ∧ k.2 ≤ o.2 ∧ o.2 ≤ k.2 + 1) ?_ fun w ⟨⟨q, hq, hq2⟩, w1, w2⟩ => ?_
  · unfold s_l17Rd_of
    refine so_bind (pick_ok ⟨r.b, k.2⟩ _ hb (by simp only; omega) (hpm _ (by simp only; omega))) fun u ⟨hu, u0, u1⟩ => ?_
    simp only at hu
    have u1 := u1 (by have := List.length_pos_iff.2 hb0; rw [List.length_map]; omega)
    refine so_bind (so_idx (P := fun x => ∃ w, x = bs w ∧ w.length ≤ 10) u0 u1 fun x hx => ?_) fun x hx => so_some ⟨hx, by simp only; omega, by simp only; omega⟩
    obtain ⟨w, hw, rfl⟩ := List.mem_map.1 hx
    exact ⟨w, rfl, hbl w hw⟩
  obtain ⟨w0, w3⟩ := w
  simp only at hq w1 w2
  subst hq
  simp only
  have t1 : (List.take (k.1.toNat - Int.toNat 0) (List.drop (Int.toNat 0) l)).length ≤ l.length := by rw [List.length_take, List.length_drop]; omega
  rw [cat_bs (by omega), Option.bind_some]
  refine so_bind (pick_ok ⟨r.b, w3⟩ 2 hb (by simp only; omega) (hpm _ (by simp only; omega))) fun v ⟨hv, v0, v1⟩ => ?_
  simp only at hv
  have v1 := v1 (by omega)
  rw [i64_id (by omega) (by omega), ← bs_size l, show k.1 + v.1 = (((k.1 + v.1).toNat : Nat) : Int) by omega, ssl_from (by omega), Option.bind_some]
  have t2 : (List.drop (k.1 + v.1).toNat l).length + k.1.toNat ≤ l.length := by rw [List.length_drop]; omega
  have t3 : (List.take (k.1.toNat - Int.toNat 0) (List.drop (Int.toNat 0) l)).length ≤ k.1.toNat := by rw [List.length_take]; simp <;> omega
  rw [cat_bs (by rw [List.length_append]; omega), Option.bind_some]
  exact so_some ⟨⟨_, rfl, by simp only [List.length_append, bs_size]; omega⟩, by simp only; omega, by simp only; omega⟩
end Go.L
namespace Go.L
open Go Go.E
set_option linter.unusedSimpArgs false
set_option linter.unusedVariables false
set_option maxRecDepth 100000
theorem litT_no10 (k : Int) : (10 : UInt8) ∉ litT k := by
  unfold litT
  split
  · intro h
    rcases List.mem_cons.1 h with h | h
    · cases h
    · rcases List.mem_cons.1 h with h | h
      · cases h
      · exact dec_no10 _ h
  · intro h
    rcases List.mem_cons.1 h with h | h
    · cases h
    · exact dec_no10 _ h
theorem conT_no10 (c : Con) : (10 : UInt8) ∉ conT c := by
  unfold conT
  intro h
  rcases List.mem_append.1 h with h | h
  · rcases List.mem_append.1 h with h | h
    · obtain ⟨t, _, ht⟩ := List.mem_flatMap.1 h
      unfold termT at ht
      rcases List.mem_append.1 ht with h | h
      · rcases List.mem_append.1 h with h | h
        · exact dec_no10 _ h
        · rcases List.mem_cons.1 h with h | h
          · cases h
          · exact litT_no10 _ h
      · simp at h
    · simp at h
  · exact dec_no10 _ h
theorem split_back (c : UInt8) : ∀ l, ((splitC c l).take ((splitC c l).length - 1)).flatMap (fun w => w ++ [c]) ++ (splitC c l).getD ((splitC c l).length - 1) [] = l
  | [] => rfl
  | b :: l => by
    have ih := split_back c l
    have hne := splitC_ne c l
    unfold splitC
    generalize splitC c l = ws at *
    obtain ⟨w, r, rfl⟩ : ∃ w r, ws = w :: r := by
      cases ws with
      | nil => exact absurd rfl hne
      | cons w r => exact ⟨w, r, rfl⟩
    split
    · rename_i e
      subst e
      simp only [List.length_cons, Nat.add_sub_cancel] at ih ⊢
      rw [List.take_succ_cons, List.flatMap_cons]
      show [] ++ [b] ++ _ ++ (w :: r).getD r.length [] = _
      rw [List.nil_append, List.append_assoc, ih]
      rfl
    · simp only [List.length_cons, Nat.add_sub_cancel] at ih ⊢
      cases r with
      | nil => simpa using ih
      | cons x r =>
        simp only [List.length_cons, List.take_succ_cons, List.flatMap_cons, List.append_assoc] at ih ⊢
        show (b :: w) ++ _ = _
        rw [List.cons_append]
        exact congrArg (b :: ·) ih
theorem split_lines : ∀ (ws : List (List UInt8)) (c : UInt8), (∀ w ∈ ws, c ∉ w) → splitC c (ws.flatMap fun w => w ++ [c]) = ws ++ [[]]
  | [], c, _ => rfl
  | w :: ws, c, h => by
    rw [List.flatMap_cons, List.append_assoc, List.singleton_append, splitC_cut _ (h w (by simp)), split_lines ws c fun x hx => h x (by simp [hx])]
    rfl
theorem i_lines {l : List UInt8} (h : l.length ≤ 1048576) (most : Int) : i_linesOf (bs l) most =
    some (((splitC 10 l).take ((splitC 10 l).length - 1)).map bs, ((splitC 10 l).getD ((splitC 10 l).length - 1) [] == []) && decide ((((splitC 10 l).length - 1 : Nat) : Int) ≤ most)) := by
  have hne : (splitC 10 l).length ≠ 0 := by rw [Ne, List.length_eq_zero_iff]; exact splitC_ne 10 l
  have hwl := splitC_len 10 l
  unfold i_linesOf
  rw [show (⟨#[10]⟩ : ByteArray) = bs [10] from rfl, strings_split (by omega), Option.bind_some]
  generalize splitC 10 l = ws at *
  simp only [List.length_map]
  rw [show i64 ((ws.length : Int) - 1) = ((ws.length - 1 : Nat) : Int) from by rw [i64_id (by omega) (by omega)]; omega, sl_pre (by rw [List.length_map]; omega), Option.bind_some, idx_words (by omega), Option.bind_some,
    show (⟨#[]⟩ : ByteArray) = bs [] from rfl, eq_bs, List.map_take]
end Go.L
namespace Go.L
open Go Go.E
set_option linter.unusedSimpArgs false
set_option linter.unusedVariables false
set_option maxRecDepth 100000
def wordS (k : Int) : List UInt8 :=
  if k = 1 then [97, 100, 100] else if k = 2 then [109, 117, 108, 116, 105, 112, 108, 121] else if k = 3 then [100, 105, 118, 105, 100, 101] else if k = 4 then [115, 97, 116, 117, 114, 97, 116, 101]
  else if k = 5 then [119, 101, 97, 107, 101, 110] else if k = 6 then [108, 105, 116, 101, 114, 97, 108] else if k = 7 then [114, 117, 112] else [100, 101, 108, 101, 116, 101]
def argT (s : Step) : List UInt8 :=
  if s.kind = 7 then conT s.given else if s.kind = 6 then litT s.a else if s.kind = 4 ∨ s.kind = 8 then dec s.a.toNat else dec s.a.toNat ++ 32 :: dec s.b.toNat
def lineS (s : Step) : List UInt8 := wordS s.kind ++ 32 :: argT s
def litQ (l : Int) : Bool := l != 0 && (decide (-12 ≤ l) && decide (l ≤ 12))
def writeB (s : Step) : Bool := partsB s && (if s.kind = 7 then okCon s.given else if s.kind = 6 then litQ s.a else okB s.a && okB s.b)
def fmtS (xs : List Step) : List UInt8 := if xs.length ≤ 1000 ∧ xs.all writeB = true then xs.flatMap (fun s => lineS s ++ [10]) else []
theorem litQ_iff {l : Int} : litQ l = true ↔ okL l := by
  unfold litQ okL
  simp
theorem okB_iff {n : Int} : okB n = true ↔ 0 ≤ n ∧ n ≤ 20000 := by unfold okB; simp
theorem kinds_of {s : Step} (h : writeB s = true) : 1 ≤ s.kind ∧ s.kind ≤ 8 ∧ ((s.kind = 7 ∧ okCon s.given = true) ∨ (s.kind = 6 ∧ okL s.a) ∨ ((s.kind ≠ 7 ∧ s.kind ≠ 6) ∧ (0 ≤ s.a ∧ s.a ≤ 20000) ∧ 0 ≤ s.b ∧ s.b ≤ 20000)) := by
  unfold writeB at h
  rw [Bool.and_eq_true] at h
  have hk : 1 ≤ s.kind ∧ s.kind ≤ 8 := by
    have := h.1
    unfold partsB at this
    split at this
    · omega
    · split at this
      · omega
      · split at this
        · omega
        · cases this
  refine ⟨hk.1, hk.2, ?_⟩
  have h2 := h.2
  split at h2
  · exact .inl ⟨‹_›, h2⟩
  · split at h2
    · exact .inr (.inl ⟨‹_›, litQ_iff.1 h2⟩)
    · rw [Bool.and_eq_true] at h2
      exact .inr (.inr ⟨⟨‹_›, ‹_›⟩, okB_iff.1 h2.1, okB_iff.1 h2.2⟩)
theorem wordS_len (k : Int) : 3 ≤ (wordS k).length ∧ (wordS k).length ≤ 8 := by
  unfold wordS
  repeat' split
  all_goals decide
theorem argT_len {s : Step} (h : writeB s = true) : (argT s).length ≤ 128 := by
  obtain ⟨_, _, ⟨hk, hc⟩ | ⟨hk, hl⟩ | ⟨hk, ha, hb⟩⟩ := kinds_of h
  · unfold argT; rw [if_pos hk]; exact conT_len hc
  · unfold argT
    rw [if_neg (by omega), if_pos hk]
    have := litT_len hl
    omega
  · have h1 := dec_len 4 s.a.toNat (by omega)
    have h2 := dec_len 4 s.b.toNat (by omega)
    unfold argT
    rw [if_neg hk.1, if_neg hk.2]
    split
    · omega
    · simp only [List.length_append, List.length_cons]; omega
theorem lineS_len {s : Step} (h : writeB s = true) : 4 ≤ (lineS s).length ∧ (lineS s).length ≤ 140 := by
  have h1 := argT_len h
  have h2 := wordS_len s.kind
  unfold lineS
  simp only [List.length_append, List.length_cons]
  omega
theorem i_isLit (l : Int) : i_isLiteral l = some (litQ l) := by
  unfold i_isLiteral i_within litQ
  simp only [Option.bind_some]
  cases (l != 0) <;> simp
theorem i_write (s : Step) : i_Step_writable s = some (writeB s) := by
  unfold i_Step_writable writeB
  rw [i_shaped, Option.bind_some]
  cases hp : partsB s with
  | false => rfl
  | true =>
    simp only [Bool.not_true, Bool.false_eq_true, if_false, Bool.true_and]
    by_cases h6 : s.kind = 6
    · rw [if_pos (by simp [h6]), i_isLit, if_neg (by omega), if_pos h6]
      rfl
    · rw [if_neg (by simpa using h6), if_neg h6]
      by_cases h7 : s.kind = 7
      · rw [if_pos (by simp [h7]), i_valid, if_pos h7]
        rfl
      · rw [if_neg (by simpa using h7), if_neg h7]
        unfold i_within okB
        simp only [Option.bind_some]
        cases (decide (0 ≤ s.a) && decide (s.a ≤ 20000)) <;> simp
theorem words_at {k : Int} (h : 1 ≤ k ∧ k ≤ 8) : idx [(⟨#[]⟩ : ByteArray), (⟨#[97, 100, 100]⟩ : ByteArray), (⟨#[109, 117, 108, 116, 105, 112, 108, 121]⟩ : ByteArray), (⟨#[100, 105, 118, 105, 100, 101]⟩ : ByteArray), (⟨#[115, 97, 116, 117, 114, 97, 116, 101]⟩ : ByteArray), (⟨#[119, 101, 97, 107, 101, 110]⟩ : ByteArray), (⟨#[108, 105, 116, 101, 114, 97, 108]⟩ : ByteArray), (⟨#[114, 117, 112]⟩ : ByteArray), (⟨#[100, 101, 108, 101, 116, 101]⟩ : ByteArray)] k = some (bs (wordS k)) := by
  rcases (show k = 1 ∨ k = 2 ∨ k = 3 ∨ k = 4 ∨ k = 5 ∨ k = 6 ∨ k = 7 ∨ k = 8 by omega) with e | e | e | e | e | e | e | e <;> rw [e] <;> rfl
theorem i_stepT {s : Step} (h : writeB s = true) : i_Step_text s = some (bs (lineS s)) := by
  have hw := wordS_len s.kind
  have hla := argT_len h
  obtain ⟨k1, k8, hc⟩ := kinds_of h
  unfold i_Step_text i_stepWords lineS
  rw [Option.bind_some, words_at ⟨k1, k8⟩, Option.bind_some, show (⟨#[32]⟩ : ByteArray) = bs [32] from rfl, cat_bs (by simp only [List.length_cons, List.length_nil]; omega), Option.bind_some, i_ref, Option.bind_some]
  rcases hc with ⟨hk, hc⟩ | ⟨hk, hl⟩ | ⟨⟨hk7, hk6⟩, ha, hb⟩
  · have hl := conT_len hc
    rw [if_neg (by simp [hk]), if_pos (by simp [hk]), i_text hc, Option.bind_some, cat_bs (by simp only [List.length_append, List.length_cons, List.length_nil]; omega), Option.bind_some]
    unfold argT
    rw [if_pos hk]
    simp
  · have hll := litT_len hl
    have hl := hl.2
    rw [if_pos (by simp [hk]), i_litText (by omega), Option.bind_some, cat_bs (by simp only [List.length_append, List.length_cons, List.length_nil]; omega), Option.bind_some]
    unfold argT
    rw [if_neg (by omega), if_pos hk]
    simp
  · have h1 := dec_len 4 s.a.toNat (by omega)
    have h2 := dec_len 4 s.b.toNat (by omega)
    rw [if_neg (by simpa using hk6), if_neg (by simpa using hk7)]
    unfold argT
    rw [if_neg hk7, if_neg hk6]
    unfold refersB
    rcases (show s.kind = 1 ∨ s.kind = 2 ∨ s.kind = 3 ∨ s.kind = 4 ∨ s.kind = 5 ∨ s.kind = 8 by omega) with e | e | e | e | e | e
    all_goals
      simp only [e, itoa_of ha.1 (show s.a ≤ 9223372036854775807 by omega), Option.bind_some]
      rw [cat_bs (by rw [← e]; simp only [List.length_append, List.length_cons, List.length_nil]; omega)]
      simp only [Option.bind_some, itoa_of hb.1 (show s.b ≤ 9223372036854775807 by omega)]
      simp
    all_goals
      rw [cat_bs (by rw [← e]; simp only [List.length_append, List.length_cons, List.length_nil]; omega), Option.bind_some, cat_bs (by rw [← e]; simp only [List.length_append, List.length_cons, List.length_nil]; omega)]
      simp
theorem s_lineT (s : Step) (hl : s.given.terms.length ≤ ML) {fu : Nat} (hf : 30 ≤ fu) : s_l4Line fu s = some (bs (if writeB s then lineS s else [])) := by
  unfold s_l4Line
  rw [s_parts, Option.bind_some]
  have hno : ∀ {b : Bool}, b = false → (bs (if (b = true) then lineS s else []) : ByteArray) = ⟨#[]⟩ := by rintro b rfl; rfl
  cases hp : partsB s with
  | false =>
    have : writeB s = false := by unfold writeB; rw [hp]; rfl
    rw [hno this]
    rfl
  | true =>
    have hk : 1 ≤ s.kind ∧ s.kind ≤ 8 := by
      unfold partsB at hp
      split at hp
      · omega
      · split at hp
        · omega
        · split at hp
          · omega
          · cases hp
    have hw := wordS_len s.kind
    unfold s_l4Words
    rw [if_neg (by simp), Option.bind_some, words_at hk, Option.bind_some]
    by_cases h7 : s.kind = 7
    · rw [if_pos (by simp [h7]), s_valid _ hl, Option.bind_some]
      have e : writeB s = okCon s.given := by unfold writeB; rw [hp, if_pos h7]; rfl
      cases hc : okCon s.given with
      | false => rw [hno (e.trans hc)]; rfl
      | true =>
        have hcl := conT_len hc
        rw [if_neg (by simp), show (⟨#[32]⟩ : ByteArray) = bs [32] from rfl, cat_bs (by simp only [List.length_cons, List.length_nil]; omega), Option.bind_some, s_text hc hf, Option.bind_some, cat_bs (by simp only [List.length_append, List.length_cons, List.length_nil]; omega), Option.bind_some,
          if_pos (e.trans hc)]
        unfold lineS argT
        rw [if_pos h7]
        simp
    · rw [if_neg (by simpa using h7)]
      by_cases h6 : s.kind = 6
      · rw [if_pos (by simp [h6])]
        have e : writeB s = litQ s.a := by unfold writeB; rw [hp, if_neg h7, if_pos h6]; rfl
        have e1 : s_l1Lit s.a = some (litQ s.a) := by
          unfold s_l1Lit litQ
          rw [Bool.and_assoc]
        rw [e1, Option.bind_some]
        cases hc : litQ s.a with
        | false => rw [hno (e.trans hc)]; rfl
        | true =>
          have hL := litQ_iff.1 hc
          have hll := litT_len hL
          have hL := hL.2
          rw [if_neg (by simp), show (⟨#[32]⟩ : ByteArray) = bs [32] from rfl, cat_bs (by simp only [List.length_cons, List.length_nil]; omega), Option.bind_some, s_litText (by omega) hf, Option.bind_some, cat_bs (by simp only [List.length_append, List.length_cons, List.length_nil]; omega), Option.bind_some,
            if_pos (e.trans hc)]
          unfold lineS argT
          rw [if_neg h7, if_pos h6]
          simp
      · rw [if_neg (by simpa using h6)]
        have e : writeB s = (okB s.a && okB s.b) := by unfold writeB; rw [hp, if_neg h7, if_neg h6]; rfl
        by_cases hr : (0 ≤ s.a ∧ s.a ≤ 20000) ∧ 0 ≤ s.b ∧ s.b ≤ 20000
        · obtain ⟨ha, hb⟩ := hr
          have h1 := dec_len 4 s.a.toNat (by omega)
          have h2 := dec_len 4 s.b.toNat (by omega)
          rw [if_neg (by simp only [Bool.or_eq_true, decide_eq_true_eq, not_or]; omega), show (⟨#[32]⟩ : ByteArray) = bs [32] from rfl, cat_bs (by simp only [List.length_cons, List.length_nil]; omega), Option.bind_some, s_dec_of ha.1 (by omega) hf, Option.bind_some,
            cat_bs (by simp only [List.length_append, List.length_cons, List.length_nil]; omega), Option.bind_some, if_pos (e.trans (by rw [okB_iff.2 ha, okB_iff.2 hb]; rfl))]
          unfold lineS argT
          rw [if_neg h7, if_neg h6]
          by_cases h48 : s.kind = 4 ∨ s.kind = 8
          · rw [if_neg (by rcases h48 with e | e <;> simp [e]), if_pos h48]
            simp
          · rw [if_pos (by simp; omega), if_neg h48, cat_bs (by simp only [List.length_append, List.length_cons, List.length_nil]; omega), Option.bind_some, s_dec_of hb.1 (by omega) hf, Option.bind_some, cat_bs (by simp only [List.length_append, List.length_cons, List.length_nil]; omega)]
            simp
        · have : writeB s = false := by
            rw [e]
            cases h1 : okB s.a with
            | false => rfl
            | true =>
              cases h2 : okB s.b with
              | false => rfl
              | true => exact absurd ⟨okB_iff.1 h1, okB_iff.1 h2⟩ hr
          rw [if_pos (by simp only [Bool.or_eq_true, decide_eq_true_eq]; omega), hno this]
theorem lines_next {xs : List Step} {i : Nat} {s : Step} (h : xs[i]? = some s) : (xs.take (i + 1)).flatMap (fun s => lineS s ++ [10]) = (xs.take i).flatMap (fun s => lineS s ++ [10]) ++ (lineS s ++ [10]) := flat_take _ h
theorem lines_len : ∀ {xs : List Step}, (∀ s ∈ xs, writeB s = true) → (xs.flatMap (fun s => lineS s ++ [10])).length ≤ 141 * xs.length
  | [], _ => by simp
  | s :: xs, h => by
    have h1 := (lineS_len (h s (by simp))).2
    have h2 := lines_len (xs := xs) fun x hx => h x (by simp [hx])
    simp only [List.flatMap_cons, List.length_append, List.length_cons, List.length_nil]
    omega
theorem fmtS_len (xs : List Step) : (fmtS xs).length ≤ 141000 := by
  unfold fmtS
  split
  · rename_i h
    have := lines_len fun s hs => List.all_eq_true.1 h.2 s hs
    omega
  · simp
theorem all_take {xs : List Step} {i : Nat} {s : Step} (h : xs[i]? = some s) (ha : ∀ x ∈ xs.take i, writeB x = true) (hs : writeB s = true) : ∀ x ∈ xs.take (i + 1), writeB x = true := by
  intro x hx
  rw [List.take_add_one, h, Option.toList_some] at hx
  rcases List.mem_append.1 hx with h1 | h1
  · exact ha x h1
  · rw [List.mem_singleton.1 h1]; exact hs
theorem lines_loop {b : Nat → Step → ByteArray → Option (Lo ByteArray ByteArray)} (xs : List Step) (hl : xs.length ≤ 1000)
    (hb : ∀ i s (o : List UInt8), xs[i]? = some s → o.length ≤ 141000 → b i s (bs o) = some (if writeB s then .cont (bs (o ++ (lineS s ++ [10]))) else .out (bs []))) :
    ∃ j, rangeL b xs 0 (bs []) = some j ∧ (match j with | .nx o => o | .out t => t) = bs (if xs.all writeB = true then xs.flatMap (fun s => lineS s ++ [10]) else []) := by
  refine range_inv xs (fun i o => (∀ x ∈ xs.take i, writeB x = true) ∧ o = bs ((xs.take i).flatMap (fun s => lineS s ++ [10]))) (fun j => (match j with | .nx o => o | .out t => t) = bs (if xs.all writeB = true then xs.flatMap (fun s => lineS s ++ [10]) else []))
    ?_ ?_ _ ⟨by simp, by simp⟩
  · rintro o ⟨h1, h2⟩
    rw [List.take_length] at h1 h2
    rw [if_pos (List.all_eq_true.2 h1)]
    exact h2
  · rintro i s o hs ⟨h1, rfl⟩
    have h2 := lines_len h1
    have h3 : (xs.take i).length ≤ xs.length := by rw [List.length_take]; omega
    rw [hb i s _ hs (by omega)]
    cases hw : writeB s with
    | true =>
      simp only [if_true]
      exact ⟨_, rfl, all_take hs h1 hw, by rw [lines_next hs]⟩
    | false =>
      refine ⟨_, rfl, ?_⟩
      simp only [Bool.false_eq_true, if_false]
      rw [if_neg]
      intro h
      have := List.all_eq_true.1 h s (List.mem_of_getElem? hs)
      rw [hw] at this
      cases this
theorem i_fmtS (xs : List Step) : i_FormatProof xs = some (bs (fmtS xs)) := by
  unfold i_FormatProof fmtS
  by_cases hl : xs.length ≤ 1000
  · rw [if_neg (by simp only [decide_eq_true_eq]; omega)]
    obtain ⟨j, hj, hj2⟩ := lines_loop (b := i_FormatProof_b1) xs hl fun i s o hs ho => by
      unfold i_FormatProof_b1
      simp only []
      rw [i_write, Option.bind_some]
      cases hw : writeB s with
      | false => rfl
      | true =>
        have h1 := lineS_len hw
        rw [if_neg (by simp), i_stepT hw, Option.bind_some, show (⟨#[10]⟩ : ByteArray) = bs [10] from rfl, cat_bs (by simp only [List.length_cons, List.length_nil]; omega), Option.bind_some, catB_bs (by simp only [List.length_append, List.length_cons, List.length_nil]; omega)]
        rfl
    rw [show (ByteArray.empty : ByteArray) = bs [] from rfl, hj, Option.bind_some]
    have e : (xs.length ≤ 1000 ∧ xs.all writeB = true) ↔ xs.all writeB = true := ⟨fun h => h.2, fun h => ⟨hl, h⟩⟩
    simp only [e]
    cases j with
    | nx o => exact congrArg some hj2
    | out t => exact congrArg some hj2
  · rw [if_pos (by simp only [decide_eq_true_eq]; omega), if_neg (fun h => hl h.1)]
    rfl
theorem s_fmtS (xs : List Step) (hg : ∀ s ∈ xs, s.given.terms.length ≤ ML) {fu : Nat} (hf : 30 ≤ fu) : s_FormatProof fu xs = some (bs (fmtS xs)) := by
  unfold s_FormatProof fmtS
  by_cases hl : xs.length ≤ 1000
  · rw [if_neg (by simp only [decide_eq_true_eq]; omega)]
    obtain ⟨j, hj, hj2⟩ := lines_loop (b := s_FormatProof_b1 fu) xs hl fun i s o hs ho => by
      unfold s_FormatProof_b1
      simp only []
      rw [s_lineT s (hg s (List.mem_of_getElem? hs)) hf, Option.bind_some, show (⟨#[]⟩ : ByteArray) = bs [] from rfl, eq_bs]
      cases hw : writeB s with
      | false => rfl
      | true =>
        have h1 := lineS_len hw
        have h2 : (lineS s == []) = false := by
          cases h : lineS s with
          | nil => rw [h] at h1; simp at h1
          | cons x r => rfl
        simp only [if_true, h2, Bool.false_eq_true, if_false]
        rw [cat_bs (by omega), Option.bind_some, show (⟨#[10]⟩ : ByteArray) = bs [10] from rfl, cat_bs (by simp only [List.length_append, List.length_cons, List.length_nil]; omega), Option.bind_some, List.append_assoc]
    rw [show (⟨#[]⟩ : ByteArray) = bs [] from rfl, hj, Option.bind_some]
    have e : (xs.length ≤ 1000 ∧ xs.all writeB = true) ↔ xs.all writeB = true := ⟨fun h => h.2, fun h => ⟨hl, h⟩⟩
    simp only [e]
    cases j with
    | nx o => exact congrArg some hj2
    | out t => exact congrArg some hj2
  · rw [if_pos (by simp only [decide_eq_true_eq]; omega), if_neg (fun h => hl h.1)]
    rfl
end Go.L
