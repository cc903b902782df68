/- Loops and branches of lifted functions; what the written walks use beside the rules. -/
import Derived.Test.YtcjjfneofcpmfaaE5
import Derived.KernelRfl
namespace Go.E
open Go Go.RowKit
set_option linter.unusedVariables false

/-- a piece that may jump: it falls through with a state, or it is out -/
inductive Jn (σ τ : Type) | nx (s : σ) | out (t : τ)
/-- a round of a loop -/
inductive Lo (σ τ : Type) | cont (s : σ) | brk (s : σ) | out (t : τ)
section
variable {α σ τ : Type}
def rangeL (body : Nat → α → σ → Option (Lo σ τ)) : List α → Nat → σ → Option (Jn σ τ)
  | [], _, s => some (.nx s)
  | x :: xs, i, s => (body i x s).bind fun
    | .cont s' => rangeL body xs (i + 1) s'
    | .brk s' => some (.nx s')
    | .out t => some (.out t)
def countL (body : Nat → σ → Option (Lo σ τ)) : Nat → Nat → σ → Option (Jn σ τ)
  | 0, _, s => some (.nx s)
  | n + 1, i, s => (body i s).bind fun
    | .cont s' => countL body n (i + 1) s'
    | .brk s' => some (.nx s')
    | .out t => some (.out t)
def whileL (body : σ → Option (Lo σ τ)) : Nat → σ → Option (Jn σ τ)
  | 0, _ => none
  | n + 1, s => (body s).bind fun
    | .cont s' => whileL body n s'
    | .brk s' => some (.nx s')
    | .out t => some (.out t)
theorem bind_some {a b : Type} {x : Option a} {k : a → Option b} {t : b} (h : x.bind k = some t) : ∃ s, x = some s ∧ k s = some t := Option.bind_eq_some_iff.1 h
theorem so {a : Type} {x y : a} (h : some x = some y) : x = y := Option.some.inj h
theorem so2 {a b : Type} {x x' : a} {y y' : b} (h : some (x, y) = some (x', y')) : x = x' ∧ y = y' := by cases h; exact ⟨rfl, rfl⟩
theorem so3 {a b c : Type} {x x' : a} {y y' : b} {z z' : c} (h : some (x, y, z) = some (x', y', z')) : x = x' ∧ y = y' ∧ z = z' := by cases h; exact ⟨rfl, rfl, rfl⟩
theorem so4 {a b c d : Type} {x x' : a} {y y' : b} {z z' : c} {u u' : d} (h : some (x, y, z, u) = some (x', y', z', u')) : x = x' ∧ y = y' ∧ z = z' ∧ u = u' := by cases h; exact ⟨rfl, rfl, rfl, rfl⟩
theorem so5 {a b c d e : Type} {x x' : a} {y y' : b} {z z' : c} {u u' : d} {v v' : e} (h : some (x, y, z, u, v) = some (x', y', z', u', v')) : x = x' ∧ y = y' ∧ z = z' ∧ u = u' ∧ v = v' := by cases h; exact ⟨rfl, rfl, rfl, rfl, rfl⟩
theorem range_nil {body : Nat → α → σ → Option (Lo σ τ)} {i : Nat} {s : σ} {j : Jn σ τ} (h : rangeL body [] i s = some j) : .nx s = j := so h
theorem range_cons {body : Nat → α → σ → Option (Lo σ τ)} {x : α} {xs : List α} {i : Nat} {s : σ} {j : Jn σ τ} (h : rangeL body (x :: xs) i s = some j) :
    ∃ o, body i x s = some o ∧ (match o with | .cont s' => rangeL body xs (i + 1) s' | .brk s' => some (.nx s') | .out t => some (.out t)) = some j := by
  obtain ⟨o, h1, h2⟩ := bind_some h
  exact ⟨o, h1, by cases o <;> exact h2⟩
theorem count_zero {body : Nat → σ → Option (Lo σ τ)} {i : Nat} {s : σ} {j : Jn σ τ} (h : countL body 0 i s = some j) : .nx s = j := so h
theorem count_succ {body : Nat → σ → Option (Lo σ τ)} {n i : Nat} {s : σ} {j : Jn σ τ} (h : countL body (n + 1) i s = some j) :
    ∃ o, body i s = some o ∧ (match o with | .cont s' => countL body n (i + 1) s' | .brk s' => some (.nx s') | .out t => some (.out t)) = some j := by
  obtain ⟨o, h1, h2⟩ := bind_some h
  exact ⟨o, h1, by cases o <;> exact h2⟩
theorem while_zero {body : σ → Option (Lo σ τ)} {s : σ} {j : Jn σ τ} (h : whileL body 0 s = some j) : False := by cases h
theorem while_succ {body : σ → Option (Lo σ τ)} {n : Nat} {s : σ} {j : Jn σ τ} (h : whileL body (n + 1) s = some j) :
    ∃ o, body s = some o ∧ (match o with | .cont s' => whileL body n s' | .brk s' => some (.nx s') | .out t => some (.out t)) = some j := by
  obtain ⟨o, h1, h2⟩ := bind_some h
  exact ⟨o, h1, by cases o <;> exact h2⟩
end
theorem ite_t {a : Type} {b : Bool} {x y : a} (h : b = true) : (if b = true then x else y) = x := if_pos h
theorem ite_f {a : Type} {b : Bool} {x y : a} (h : b = false) : (if b = true then x else y) = y := if_neg (by rw [h]; exact Bool.false_ne_true)
theorem i64_id {n : Int} (h1 : -9223372036854775808 ≤ n) (h2 : n ≤ 9223372036854775807) : i64 n = n := by
  unfold i64; rw [IntKind.wrap_i64]; omega
theorem i64_succ {i n : Nat} (h : i < n) (hn : n ≤ 9223372036854775807) : i64 ((i : Int) + 1) = ((i + 1 : Nat) : Int) := by
  rw [i64_id (by omega) (by omega)]; omega
theorem drop_idx {α : Type} {xs : List α} {i : Nat} {x : α} {rest : List α} (h : xs.drop i = x :: rest) : idx xs (i : Int) = some x := by
  unfold idx
  rw [if_pos (Int.natCast_nonneg i), Int.toNat_natCast]
  have := List.getElem?_drop (xs := xs) (i := i) (j := 0)
  rw [h] at this
  simpa using this.symm
theorem drop_next {α : Type} {xs : List α} {i : Nat} {x : α} {rest : List α} (h : xs.drop i = x :: rest) : xs.drop (i + 1) = rest := by
  have := congrArg List.tail h
  simpa [List.tail_drop] using this
theorem len_le {α : Type} {r : RP α} {t : TypeId} {lo hi : Nat} {w : World} {v : Value} {xs : List α} (h : (RP.slice t r).rel lo hi w [v] xs) : xs.length ≤ 9223372036854775807 := by
  obtain ⟨_, _, _, h1, h2⟩ := slice_len h
  rw [maxLen_eq] at h2; omega
theorem one_of {α : Type} {r : RP α} {lo hi : Nat} {w : World} {v : Value} {x : α} (h : r.rel lo hi w [v] x) : v.oneCell' = true := r.one h v (by simp)
theorem cells_one {v : Value} (h : v.oneCell' = true) : v.cells = #[v] := by cases v <;> simp_all [Value.cells, Value.oneCell']
theorem range0 : Array.range 0 = #[] := by simp [Array.range]
theorem cells_agg {cs : Array Value} : (Value.agg cs).cells = cs := rfl
theorem cells_int {k : IntKind} {n : Int} : (Value.int k n).cells = #[.int k n] := rfl
theorem cells_bool {b : Bool} : (Value.bool b).cells = #[.bool b] := rfl
theorem cells_str {b : ByteArray} : (Value.string b).cells = #[.string b] := rfl
theorem cells_sl {a : Option Addr} {n c : Nat} : (Value.slice a n c).cells = #[.slice a n c] := rfl
theorem rel_nil {α : Type} (r : RP α) (t : TypeId) (lo hi : Nat) (w : World) : (RP.slice t r).rel lo hi w [.slice none 0 0] [] := slice_nil _ _ _ _ _ (by simp)

section code
variable {P : Program} {N : Nat} {Q : Post} {f : Fr} {w : World}
theorem W_join {c : Code} (R : Fr → World → Prop) (h : W P N c (fun e f w => match e with | .normal => R f w | e => Q e f w) f w) (hr : ∀ f w, R f w → Q .normal f w) : W P N c Q f w :=
  W_mono h fun e f w he => by cases e <;> first | exact hr _ _ he | exact he
theorem retc {fn : Func} {t : Tmp} {ty n g : Nat} {cs : Array Value} {tb : TypeId} {R : Value → World → Prop} (h : fn.results = #[.cell t ty]) (hag : ∀ w, (isAgg ty).run P w = .ok true w) (hsz : ∀ w, (sizeOf ty).run P w = .ok n w)
    (hx : f t = .pointer (some ⟨g, 0, none⟩)) (hb : Blk w g tb cs) (hn : cs.size = n) (hR : R (.agg cs) w) : RetP P fn R f w := by
  refine ⟨fun a hl => ?_⟩
  have ht : a.tmps[t]?.getD undef = .pointer (some ⟨g, 0, none⟩) := by rw [← hx, ← hl, ← Array.getD_eq_getD_getElem?]; rfl
  have h1 := run_loadCellsFrom (P := P) (w := w) g 0 n 0 #[] cs.toList (by simpa using hn) fun j u hj => by rw [Nat.zero_add, Nat.zero_add]; exact hb.cell (by simpa using hj)
  refine ⟨.agg cs, ?_, hR⟩
  simp [results, h, ht, asAddr, loadVar, hag, hsz, loadCells, h1]
theorem retc1 {fn : Func} {t u : Tmp} {ty n g : Nat} {cs : Array Value} {tb : TypeId} {R : Value → World → Prop} (h : fn.results = #[.cell t ty, .tmp u]) (hag : ∀ w, (isAgg ty).run P w = .ok true w) (hsz : ∀ w, (sizeOf ty).run P w = .ok n w)
    (hx : f t = .pointer (some ⟨g, 0, none⟩)) (hb : Blk w g tb cs) (hn : cs.size = n) (hR : R (.tuple #[.agg cs, f u]) w) : RetP P fn R f w := by
  refine ⟨fun a hl => ?_⟩
  have ht : a.tmps[t]?.getD undef = .pointer (some ⟨g, 0, none⟩) := by rw [← hx, ← hl, ← Array.getD_eq_getD_getElem?]; rfl
  have h1 := run_loadCellsFrom (P := P) (w := w) g 0 n 0 #[] cs.toList (by simpa using hn) fun j u hj => by rw [Nat.zero_add, Nat.zero_add]; exact hb.cell (by simpa using hj)
  refine ⟨.tuple #[.agg cs, f u], ?_, hR⟩
  subst hl
  simp [results, h, ht, asAddr, loadVar, hag, hsz, loadCells, h1, look]
theorem retc2 {fn : Func} {t u x : Tmp} {ty n g : Nat} {cs : Array Value} {tb : TypeId} {R : Value → World → Prop} (h : fn.results = #[.cell t ty, .tmp u, .tmp x]) (hag : ∀ w, (isAgg ty).run P w = .ok true w) (hsz : ∀ w, (sizeOf ty).run P w = .ok n w)
    (hx : f t = .pointer (some ⟨g, 0, none⟩)) (hb : Blk w g tb cs) (hn : cs.size = n) (hR : R (.tuple #[.agg cs, f u, f x]) w) : RetP P fn R f w := by
  refine ⟨fun a hl => ?_⟩
  have ht : a.tmps[t]?.getD undef = .pointer (some ⟨g, 0, none⟩) := by rw [← hx, ← hl, ← Array.getD_eq_getD_getElem?]; rfl
  have h1 := run_loadCellsFrom (P := P) (w := w) g 0 n 0 #[] cs.toList (by simpa using hn) fun j u hj => by rw [Nat.zero_add, Nat.zero_add]; exact hb.cell (by simpa using hj)
  refine ⟨.tuple #[.agg cs, f u, f x], ?_, hR⟩
  subst hl
  simp [results, h, ht, asAddr, loadVar, hag, hsz, loadCells, h1, look]
/-! guards whose bool is known by a fact -/
theorem g_yes {ops : Array Oper} {d j dj : Nat} {want : Bool} (hj : (ops[j]?).bind (·.dst) = some dj) (hf : f dj = .bool want) (hN : Nat.blt d N = true) : ok1 ops f N d (some (j, want)) = true := by
  simp [ok1, yieldedF, hj, hf, hN]
theorem g_no {ops : Array Oper} {d j dj : Nat} {want b : Bool} (hj : (ops[j]?).bind (·.dst) = some dj) (hf : f dj = .bool b) (hb : (b == want) = false) (hN : Nat.blt d N = true) : (!ok0 ops f (some (j, want)) && Nat.blt d N) = true := by
  have : ¬ b = want := by intro e; rw [e] at hb; simp at hb
  simp [ok0, yieldedF, hj, hf, hN, this]
theorem g_undef {ops : Array Oper} {d j dj : Nat} {want : Bool} (hj : (ops[j]?).bind (·.dst) = some dj) (hf : f dj = undef) (hN : Nat.blt d N = true) : (!ok0 ops f (some (j, want)) && Nat.blt d N) = true := by
  simp [ok0, yieldedF, hj, hf, hN, undef]
end code
/-- how many rounds: from s on, below e -/
def cntF (s : Nat) (e : Int) : Option Nat := if e ≤ 4294967296 ∧ s ≤ 4294967296 then some (e - s).toNat else none
theorem cntF_some {s : Nat} {e : Int} {k : Nat} (h : cntF s e = some k) : e ≤ 4294967296 ∧ s ≤ 4294967296 ∧ k = (e - s).toNat := by
  unfold cntF at h
  split at h
  · rename_i hl; exact ⟨hl.1, hl.2, by injection h with h; exact h.symm⟩
  · cases h
theorem cntF_le {s : Nat} {e : Int} {k : Nat} (h : cntF s e = some k) : s + k ≤ 9223372036854775807 := by have := cntF_some h; omega
theorem cntF_no {s : Nat} {e : Int} {i k : Nat} (hl : i + 0 = s + k) (h : cntF s e = some k) : ¬ (i : Int) < e := by have := cntF_some h; omega
theorem cntF_yes {s : Nat} {e : Int} {i k n : Nat} (hs : s ≤ i) (hl : i + (n + 1) = s + k) (h : cntF s e = some k) : (i : Int) < e := by have := cntF_some h; omega
theorem cntF_noL {s : Nat} {e : Int} {i k : Nat} (hl : i + 0 = s + k) (h : cntF s (e + 1) = some k) : ¬ (i : Int) ≤ e := by have := cntF_some h; omega
theorem cntF_yesL {s : Nat} {e : Int} {i k n : Nat} (hs : s ≤ i) (hl : i + (n + 1) = s + k) (h : cntF s (e + 1) = some k) : (i : Int) ≤ e := by have := cntF_some h; omega
theorem tup2_eq {a a' b b' : Value} (h : a = a') (k : b = b') : Value.tuple #[a, b] = .tuple #[a', b'] := by rw [h, k]
theorem tup3_eq {a a' b b' c c' : Value} (h : a = a') (k : b = b') (l : c = c') : Value.tuple #[a, b, c] = .tuple #[a', b', c'] := by rw [h, k, l]
theorem ones_nil : ∀ u ∈ ([] : List Value), u.oneCell' = true := by simp
theorem ones_cons {v : Value} {vs : List Value} (h : v.oneCell' = true) (hs : ∀ u ∈ vs, u.oneCell' = true) : ∀ u ∈ v :: vs, u.oneCell' = true := by
  intro u hu
  rcases List.mem_cons.1 hu with rfl | hu
  · exact h
  · exact hs u hu
theorem Blk.sub {w : World} {g : Nat} {t : TypeId} {cs : Array Value} (h : Blk w g t cs) (o n : Nat) : At w g o ((cs.toList.drop o).take n) :=
  ⟨cs, t, _, h, fun j v hj => by
    rw [List.getElem?_take] at hj
    split at hj
    · rw [List.getElem?_drop] at hj; simpa using hj
    · cases hj⟩
theorem At.sub {w : World} {g b : Nat} {cs : List Value} (h : At w g b cs) (o n : Nat) : At w g (b + o) ((cs.drop o).take n) := by
  obtain ⟨c, t, fz, hc, h⟩ := h
  refine ⟨c, t, fz, hc, fun j v hj => ?_⟩
  rw [List.getElem?_take] at hj
  split at hj
  · rw [List.getElem?_drop] at hj
    have := h _ v hj
    rwa [show b + o + j = b + (o + j) from by omega]
  · cases hj
theorem own_lit {α : Type} {r : RP α} {e : TypeId} {lo el n : Nat} {w w' : World} {g : Nat} {cs : Array Value} {xs : List α} (hl : xs.length = n) (hn : New w w' g e cs) (hsz : cs.size = n * r.n) (hm : n ≤ maxLen) (hlo : lo ≤ w.heap.size)
    (hel : ∀ i z, xs[i]? = some z → r.rel el w.heap.size w [cs.getD i undef] z) : Own r e lo el w' (.slice (some ⟨g, 0, none⟩) n n) xs := by
  have hr1 : ∀ i z, xs[i]? = some z → r.n = 1 := fun i z hz => (r.len (hel i z hz)).symm
  refine own_new hn hl hsz hm hlo fun i z hz => ⟨_, hel i z hz, fun j u hj => ?_⟩
  have h1 := hr1 i z hz
  cases j with
  | succ j => simp at hj
  | zero =>
    have hi : i < xs.length := (List.getElem?_eq_some_iff.1 hz).1
    have hc : i < cs.size := by rw [hsz, h1]; omega
    simp [Array.getD_eq_getD_getElem?, hc] at hj
    rw [h1]; simp [hc, hj]
theorem and_t {c e : Bool} {v : Value} (h : c = true) (hv : v = .bool e) : v = .bool (c && e) := by rw [h, hv]; rfl
theorem and_f {c e : Bool} (h : c = false) : Value.bool false = .bool (c && e) := by rw [h]; rfl
theorem or_t {c e : Bool} (h : c = true) : Value.bool true = .bool (c || e) := by rw [h]; rfl
theorem or_f {c e : Bool} {v : Value} (h : c = false) (hv : v = .bool e) : v = .bool (c || e) := by rw [h, hv]; rfl

/-! facts of an element's address -/
def isEl {α : Type} (B : Nat) (r : RP α) (x : α) (off : Nat) : VP := fun v w => ∃ g o cs, v = .pointer (some ⟨g, o + off, none⟩) ∧ r.rel B w.heap.size w cs x ∧ At w g o cs
theorem mono_el {α : Type} (B : Nat) (r : RP α) (x : α) (off : Nat) : Mono (isEl B r x off) := fun _ _ _ ⟨g, o, cs, hv, hr, ha⟩ e => ⟨g, o, cs, hv, RP.wide (RP.ext hr e) (Nat.le_refl _) e.size, ha.ext e⟩
theorem rel0 {α : Type} {r : RP α} {lo hi : Nat} {w : World} {cs : List Value} {x : α} (h : r.rel lo hi w cs x) : r.rel lo w.heap.size w cs x := RP.size_ h

/-! two rows are apart -/
def Ap (a b : Option Nat) : Prop := ∀ k, a = some k → b = some k → False
theorem Ap.symm {a b : Option Nat} (h : Ap a b) : Ap b a := fun k x y => h k y x
theorem ap_none (b : Option Nat) : Ap none b := fun k h _ => nomatch h
theorem ap_none' (b : Option Nat) : Ap b none := fun k _ h => nomatch h
theorem ap_eq {a b : Option Nat} {g : Nat} (h : a = some g) (p : Ap a b) : Ap (some g) b := h ▸ p
section ap
variable {α : Type} {r : RP α} {t e : TypeId} {lo el lo' el' : Nat} {w w' : World} {v u v' : Value} {xs : List α} {g g' : Nat} {cs cs' : Array Value}
theorem ap_bb {t' : TypeId} (h : Blk w g t cs) (n : New w w' g' t' cs') : Ap (some g) (some g') := by
  intro k h1 h2
  have := h.lt
  have := n.eq
  injection h1 with h1; injection h2 with h2
  omega
theorem ap_ob {t' : TypeId} (h : Own r t lo el w v xs) (n : New w w' g' t' cs') : Ap v.ownBlock (some g') := by
  intro k h1 h2
  have := (h.lt k h1).2
  have := n.eq
  injection h2 with h2
  omega
theorem ap_bs (h : Blk w g t cs) (n : v'.ownBlock = some w.heap.size) : Ap (some g) v'.ownBlock := by
  intro k h1 h2
  have := h.lt
  rw [n] at h2
  injection h1 with h1; injection h2 with h2
  omega
theorem ap_os (h : Own r t lo el w v xs) (n : v'.ownBlock = some w.heap.size) : Ap v.ownBlock v'.ownBlock := by
  intro k h1 h2
  have := (h.lt k h1).2
  rw [n] at h2
  injection h2 with h2
  omega
theorem ap_ba (h : Blk w g t cs) (n : v'.ownBlock = u.ownBlock ∨ v'.ownBlock = some w.heap.size) (a : Ap (some g) u.ownBlock) : Ap (some g) v'.ownBlock := by
  rcases n with n | n
  · rw [n]; exact a
  · exact ap_bs h n
theorem ap_oa (h : Own r t lo el w v xs) (n : v'.ownBlock = u.ownBlock ∨ v'.ownBlock = some w.heap.size) (a : Ap v.ownBlock u.ownBlock) : Ap v.ownBlock v'.ownBlock := by
  rcases n with n | n
  · rw [n]; exact a
  · exact ap_os h n
theorem ap_bc {β : Type} {s : RP β} {ys : List β} (h : Blk w g t cs) (n : Own s e w.heap.size el' w' v' ys) : Ap (some g) v'.ownBlock := by
  intro k h1 h2
  have := h.lt
  have := (n.lt k h2).1
  injection h1 with h1
  omega
theorem ap_oc {β : Type} {s : RP β} {ys : List β} (h : Own r t lo el w v xs) (n : Own s e w.heap.size el' w' v' ys) : Ap v.ownBlock v'.ownBlock := by
  intro k h1 h2
  have := (h.lt k h1).2
  have := (n.lt k h2).1
  omega
theorem Mut.blkA {row : Option Nat} {t' : TypeId} (m : Mut lo row t w w') (h : Blk w g t' cs) (ha : Ap row (some g)) : Blk w' g t' cs := m.blkN h fun e => ha g e rfl
theorem Mut.ownA {row : Option Nat} (m : Mut lo row t w w') (h : Own r e lo' el w v xs) (ha : Ap row v.ownBlock) (hel : t ∉ r.ts) (hB : el ≤ lo) : Own r e lo' el w' v xs := by
  refine m.own h ?_ hel hB
  cases hv : v.ownBlock with
  | none => exact .inl rfl
  | some k => exact .inr fun e => ha k e.symm hv
end ap

/-! function values -/
/-- the function value v computes p (one argument; ag: a struct), at every later world -/
def Fun1 (P : Program) (B : Nat) {α β : Type} (ra : RP α) (ag : Bool) (rv : β → Value) (p : α → Option β) (v : Value) (w0 : World) : Prop :=
  ∃ fid caps, v = .func (.func fid) #[] caps ∧ (∀ args w, (callFunc fid args).run P w = .ok (.enter fid args) w) ∧
    ∀ w, Ext w0 w → ∀ cs x y args, ra.rel B w.heap.size w cs x → p x = some y → args.toList = (cond ag [.agg cs.toArray] cs) ++ caps.toList →
      C P fid args w fun v w' => v = rv y ∧ Ext w w'
theorem Fun1.ext {P : Program} {B : Nat} {α β : Type} {ra : RP α} {ag : Bool} {rv : β → Value} {p : α → Option β} {v : Value} {w0 w1 : World} (h : Fun1 P B ra ag rv p v w0) (e : Ext w0 w1) : Fun1 P B ra ag rv p v w1 := by
  obtain ⟨fid, caps, hv, hc, h⟩ := h
  exact ⟨fid, caps, hv, hc, fun w e2 => h w (ext_trans e e2)⟩
theorem args_of {a b : Array Value} (h : a.toList = b.toList) : a = b := Array.toList_inj.1 h
theorem args_app {a b : Array Value} {l : List Value} (h : a.toList = l) : (a ++ b).toList = l ++ b.toList := by rw [Array.toList_append, h]
theorem At.lt {w : World} {g o : Nat} {cs : List Value} (h : At w g o cs) : g < w.heap.size := by
  obtain ⟨c, t, fz, hc, _⟩ := h
  exact (Array.getElem?_eq_some_iff.1 hc).1
theorem At.mut {w w' : World} {g o lo n : Nat} {cs : List Value} {row : Option Nat} {t : TypeId} (m : Mut lo row t w w') (h : At w g o cs) (h1 : g < n) (h2 : n ≤ lo) : At w' g o cs := by
  obtain ⟨c, t', fz, hc, hj⟩ := h
  exact ⟨c, t', fz, (m.below.block g (Nat.lt_of_lt_of_le h1 h2)).trans hc, hj⟩
end Go.E
