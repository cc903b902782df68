/- Calls, results, function values; loops and branches of lifted functions. -/
import Derived.Test.YteeilbddjlpiaaaG6
namespace Go.E
open Go Go.RowKit
set_option linter.unusedVariables false
set_option linter.unusedSimpArgs false
section rules
variable {P : Program} {N : Nat} {Q : Post} {f : Fr} {w : World} {ops : Array Oper} {rest : List Oper} {d : Nat} {ty : TypeId} {pos : String} {af : Array Edge} {gd : Option (Nat × Bool)}
variable {x y : Operand} {v : Value}
variable {fid : FuncId} {args : Array Value} {ats : Array TypeId} {R : Value → World → Prop}
theorem L_bld {t : TypeId} {parts : Array (Nat × Operand)} {vs : Array (Nat × Value)} (hk : ok1 ops f N d gd = true) (hp : parts.map (fun p => (p.1, ev f p.2)) = vs)
    (hb : ∀ w, (Instr.build t vs).run P w = .ok v w) (h : L P N ops rest Q (upd f d v) w) : L P N ops (⟨some d, .build t parts, ty, pos, af, gd⟩ :: rest) Q f w :=
  L_pure hk (by simp only [execOp, hp, Sem.run_bind, hb]; rfl) h
theorem parts0 : (#[] : Array (Nat × Operand)).map (fun p => (p.1, ev f p.2)) = #[] := by simp
theorem parts1 {i : Nat} {a : Operand} {u : Value} (h1 : ev f a = u) : (#[(i, a)] : Array (Nat × Operand)).map (fun p => (p.1, ev f p.2)) = #[(i, u)] := by simp [h1]
theorem parts2 {i j : Nat} {a b : Operand} {u u' : Value} (h1 : ev f a = u) (h2 : ev f b = u') : (#[(i, a), (j, b)] : Array (Nat × Operand)).map (fun p => (p.1, ev f p.2)) = #[(i, u), (j, u')] := by simp [h1, h2]
theorem parts3 {i j k : Nat} {a b c : Operand} {u u' u'' : Value} (h1 : ev f a = u) (h2 : ev f b = u') (h3 : ev f c = u'') :
    (#[(i, a), (j, b), (k, c)] : Array (Nat × Operand)).map (fun p => (p.1, ev f p.2)) = #[(i, u), (j, u'), (k, u'')] := by simp [h1, h2, h3]
theorem parts6 {i0 i1 i2 i3 i4 i5 : Nat} {a0 a1 a2 a3 a4 a5 : Operand} {u0 u1 u2 u3 u4 u5 : Value} (h0 : ev f a0 = u0) (h1 : ev f a1 = u1) (h2 : ev f a2 = u2) (h3 : ev f a3 = u3) (h4 : ev f a4 = u4) (h5 : ev f a5 = u5) :
    (#[(i0, a0), (i1, a1), (i2, a2), (i3, a3), (i4, a4), (i5, a5)] : Array (Nat × Operand)).map (fun p => (p.1, ev f p.2)) = #[(i0, u0), (i1, u1), (i2, u2), (i3, u3), (i4, u4), (i5, u5)] := by simp [h0, h1, h2, h3, h4, h5]
theorem parts9 {i0 i1 i2 i3 i4 i5 i6 i7 i8 : Nat} {a0 a1 a2 a3 a4 a5 a6 a7 a8 : Operand} {u0 u1 u2 u3 u4 u5 u6 u7 u8 : Value} (h0 : ev f a0 = u0) (h1 : ev f a1 = u1) (h2 : ev f a2 = u2) (h3 : ev f a3 = u3) (h4 : ev f a4 = u4) (h5 : ev f a5 = u5) (h6 : ev f a6 = u6) (h7 : ev f a7 = u7) (h8 : ev f a8 = u8) :
    (#[(i0, a0), (i1, a1), (i2, a2), (i3, a3), (i4, a4), (i5, a5), (i6, a6), (i7, a7), (i8, a8)] : Array (Nat × Operand)).map (fun p => (p.1, ev f p.2)) = #[(i0, u0), (i1, u1), (i2, u2), (i3, u3), (i4, u4), (i5, u5), (i6, u6), (i7, u7), (i8, u8)] := by simp [h0, h1, h2, h3, h4, h5, h6, h7, h8]
theorem L_ex {vs : Array Value} {i : Nat} (hk : ok1 ops f N d gd = true) (hx : ev f x = .tuple vs) (hi : vs[i]? = some v) (h : L P N ops rest Q (upd f d v) w) :
    L P N ops (⟨some d, .extract x i, ty, pos, af, gd⟩ :: rest) Q f w :=
  L_pure hk (by simp [execOp, hx, Instr.extract, hi]) h
theorem L_mf {fn : Fn} {cs : Array Operand} {vs : Array Value} (hk : ok1 ops f N d gd = true) (hc : cs.map (ev f) = vs) (h : L P N ops rest Q (upd f d (.func fn #[] vs)) w) :
    L P N ops (⟨some d, .makeFunc fn #[] cs, ty, pos, af, gd⟩ :: rest) Q f w :=
  L_pure hk (by simp only [execOp, hc]; simp [Instr.makeFunc]) h
theorem L_cv {k : IntKind} {k' : IntKind} {n : Int} {s t : TypeId} (hk : ok1 ops f N d gd = true) (hx : ev f x = .int k' n) (hs : ∃ k, P.underlying s = some (.int k)) (ht : P.underlying t = some (.int k))
    (h : L P N ops rest Q (upd f d (.int k (k.wrap n))) w) : L P N ops (⟨some d, .convert s t x, ty, pos, af, gd⟩ :: rest) Q f w := by
  obtain ⟨ks, hs⟩ := hs
  exact L_pure hk (by simp [execOp, hx, convert, run_underlying hs, run_underlying ht, Conv.intToInt]) h
theorem L_max {m n : Int} {ts : Array TypeId} (hk : ok1 ops f N d gd = true) (hx : ev f x = .int .i64 m) (hy : ev f y = .int .i64 n) (h : L P N ops rest Q (upd f d (.int .i64 (max m n))) w) :
    L P N ops (⟨some d, .call ⟨.builtin .max, #[x, y], ts⟩, ty, pos, af, gd⟩ :: rest) Q f w :=
  L_pure hk (by
    have : (if n > m then n else m) = max m n := by omega
    simp [execOp, resolve, invoke, builtin, Builtin.max_, Builtin.max2, hx, hy, this]) h
theorem L_call {xs : Array Operand} (hk : ok1 ops f N d gd = true) (hcall : ∀ args w, (callFunc fid args).run P w = .ok (.enter fid args) w) (ha : xs.map (ev f) = args)
    (hc : C P fid args w R) (h : ∀ v w', R v w' → L P N ops rest Q (upd f d v) w') : L P N ops (⟨some d, .call ⟨.value (.func fid), xs, ats⟩, ty, pos, af, gd⟩ :: rest) Q f w := by
  unfold ok1 at hk
  rw [Bool.and_eq_true] at hk
  refine L_enter (by cases gd <;> exact hk.1) rfl (Nat.le_of_ble_eq_true hk.2) ?_ hc h
  subst ha
  simp [execOp, resolve, ev, Deferred.ofValue, invoke, hcall]
theorem L_callv {xs : Array Operand} {fo : Operand} {caps : Array Value} (hk : ok1 ops f N d gd = true) (hcall : ∀ args w, (callFunc fid args).run P w = .ok (.enter fid args) w)
    (hf : ev f fo = .func (.func fid) #[] caps) (ha : xs.map (ev f) = args)
    (hc : C P fid (args ++ caps) w R) (h : ∀ v w', R v w' → L P N ops rest Q (upd f d v) w') : L P N ops (⟨some d, .call ⟨.value fo, xs, ats⟩, ty, pos, af, gd⟩ :: rest) Q f w := by
  unfold ok1 at hk
  rw [Bool.and_eq_true] at hk
  refine L_enter (by cases gd <;> exact hk.1) rfl (Nat.le_of_ble_eq_true hk.2) ?_ hc h
  subst ha
  simp [execOp, resolve, hf, Deferred.ofValue, invoke, hcall]
theorem ops1 {a : Operand} {u : Value} (h1 : ev f a = u) : #[a].map (ev f) = #[u] := by simp [h1]
theorem ops2 {a b : Operand} {u v : Value} (h1 : ev f a = u) (h2 : ev f b = v) : #[a, b].map (ev f) = #[u, v] := by simp [h1, h2]
theorem ops3 {a b c : Operand} {u v z : Value} (h1 : ev f a = u) (h2 : ev f b = v) (h3 : ev f c = z) : #[a, b, c].map (ev f) = #[u, v, z] := by simp [h1, h2, h3]
theorem ops4 {a b c e : Operand} {u v z y : Value} (h1 : ev f a = u) (h2 : ev f b = v) (h3 : ev f c = z) (h4 : ev f e = y) : #[a, b, c, e].map (ev f) = #[u, v, z, y] := by simp [h1, h2, h3, h4]
theorem ops5 {a b c e g : Operand} {u v z y x : Value} (h1 : ev f a = u) (h2 : ev f b = v) (h3 : ev f c = z) (h4 : ev f e = y) (h5 : ev f g = x) : #[a, b, c, e, g].map (ev f) = #[u, v, z, y, x] := by simp [h1, h2, h3, h4, h5]
def resV (P : Program) (f : Fr) (w : World) : ResultVar → Value → Prop
  | .tmp t, v => f t = v
  | .cell a t, v => ∃ p, f a = .pointer (some p) ∧ (loadVar t p).run P w = .ok v w
theorem resV_agg {a n g : Nat} {t tb : TypeId} {cs : Array Value} (hag : ∀ w, (isAgg t).run P w = .ok true w) (hsz : ∀ w, (sizeOf t).run P w = .ok n w) (hx : f a = .pointer (some ⟨g, 0, none⟩)) (hb : Blk w g tb cs) (hn : cs.size = n) : resV P f w (.cell a t) (.agg cs) := by
  have h1 := run_loadCellsFrom (P := P) (w := w) g 0 n 0 #[] cs.toList (by simpa using hn) fun j u hj => by rw [Nat.zero_add, Nat.zero_add]; exact hb.cell (by simpa using hj)
  exact ⟨_, hx, by simp [loadVar, hag, hsz, loadCells, h1]⟩
theorem res_k {r : ResultVar} {a : Act} (hl : look a = f) (h : resV P f w r v) : (∃ t, r = .tmp t ∧ a.tmps[t]?.getD undef = v) ∨ ∃ b t p, r = .cell b t ∧ a.tmps[b]?.getD undef = .pointer (some p) ∧ (loadVar t p).run P w = .ok v w := by
  cases r with
  | tmp t =>
    have h : f t = v := h
    subst hl
    exact .inl ⟨t, rfl, by rw [← h, ← Array.getD_eq_getD_getElem?]; rfl⟩
  | cell b t =>
    obtain ⟨p, hp, hr⟩ := h
    subst hl
    exact .inr ⟨b, t, p, rfl, by rw [← hp, ← Array.getD_eq_getD_getElem?]; rfl, hr⟩
theorem retG1 {fn : Func} {r1 : ResultVar} {v1 : Value} (h : fn.results = #[r1]) (h1 : resV P f w r1 v1) (hR : R v1 w) : RetP P fn R f w := by
  refine ⟨fun a hl => ⟨v1, ?_, hR⟩⟩
  rcases res_k hl h1 with ⟨t1, rfl, k1⟩ | ⟨b1, t1, p1, rfl, k1, q1⟩
  · simp [results, h, k1]
  · simp [results, h, asAddr, k1, q1]
theorem retG2 {fn : Func} {r1 r2 : ResultVar} {v1 v2 : Value} (h : fn.results = #[r1, r2]) (h1 : resV P f w r1 v1) (h2 : resV P f w r2 v2) (hR : R (.tuple #[v1, v2]) w) : RetP P fn R f w := by
  refine ⟨fun a hl => ⟨.tuple #[v1, v2], ?_, hR⟩⟩
  rcases res_k hl h1 with ⟨t1, rfl, k1⟩ | ⟨b1, t1, p1, rfl, k1, q1⟩ <;> rcases res_k hl h2 with ⟨t2, rfl, k2⟩ | ⟨b2, t2, p2, rfl, k2, q2⟩
  · simp [results, h, asAddr, k1, k2]
  · simp [results, h, asAddr, k1, k2, q2]
  · simp [results, h, asAddr, k1, q1, k2]
  · simp [results, h, asAddr, k1, q1, k2, q2]
end rules
inductive Jn (σ τ : Type) | nx (s : σ) | out (t : τ)
inductive Lo (σ τ : Type) | cont (s : σ) | brk (s : σ) | out (t : τ)
section
variable {α σ τ : Type}
def rangeL (body : Nat → α → σ → Option (Lo σ τ)) : List α → Nat → σ → Option (Jn σ τ)
  | [], _, s => some (.nx s)
  | x :: xs, i, s => (body i x s).bind fun
    | .cont s' => rangeL body xs (i + 1) s'
    | .brk s' => some (.nx s')
    | .out t => some (.out t)
def countL (body : Nat → σ → Option (Lo σ τ)) : Nat → Nat → σ → Option (Jn σ τ)
  | 0, _, s => some (.nx s)
  | n + 1, i, s => (body i s).bind fun
    | .cont s' => countL body n (i + 1) s'
    | .brk s' => some (.nx s')
    | .out t => some (.out t)
def whileL (body : σ → Option (Lo σ τ)) : Nat → σ → Option (Jn σ τ)
  | 0, _ => none
  | n + 1, s => (body s).bind fun
    | .cont s' => whileL body n s'
    | .brk s' => some (.nx s')
    | .out t => some (.out t)
theorem bind_some {a b : Type} {x : Option a} {k : a → Option b} {t : b} (h : x.bind k = some t) : ∃ s, x = some s ∧ k s = some t := Option.bind_eq_some_iff.1 h
theorem so {a : Type} {x y : a} (h : some x = some y) : x = y := Option.some.inj h
theorem so2 {a b : Type} {x x' : a} {y y' : b} (h : some (x, y) = some (x', y')) : x = x' ∧ y = y' := by cases h; exact ⟨rfl, rfl⟩
theorem range_nil {body : Nat → α → σ → Option (Lo σ τ)} {i : Nat} {s : σ} {j : Jn σ τ} (h : rangeL body [] i s = some j) : .nx s = j := so h
theorem range_cons {body : Nat → α → σ → Option (Lo σ τ)} {x : α} {xs : List α} {i : Nat} {s : σ} {j : Jn σ τ} (h : rangeL body (x :: xs) i s = some j) :
    ∃ o, body i x s = some o ∧ (match o with | .cont s' => rangeL body xs (i + 1) s' | .brk s' => some (.nx s') | .out t => some (.out t)) = some j := by
  obtain ⟨o, h1, h2⟩ := bind_some h
  exact ⟨o, h1, by cases o <;> exact h2⟩
theorem count_zero {body : Nat → σ → Option (Lo σ τ)} {i : Nat} {s : σ} {j : Jn σ τ} (h : countL body 0 i s = some j) : .nx s = j := so h
theorem count_succ {body : Nat → σ → Option (Lo σ τ)} {n i : Nat} {s : σ} {j : Jn σ τ} (h : countL body (n + 1) i s = some j) :
    ∃ o, body i s = some o ∧ (match o with | .cont s' => countL body n (i + 1) s' | .brk s' => some (.nx s') | .out t => some (.out t)) = some j := by
  obtain ⟨o, h1, h2⟩ := bind_some h
  exact ⟨o, h1, by cases o <;> exact h2⟩
theorem while_zero {body : σ → Option (Lo σ τ)} {s : σ} {j : Jn σ τ} (h : whileL body 0 s = some j) : False := by cases h
theorem while_succ {body : σ → Option (Lo σ τ)} {n : Nat} {s : σ} {j : Jn σ τ} (h : whileL body (n + 1) s = some j) :
    ∃ o, body s = some o ∧ (match o with | .cont s' => whileL body n s' | .brk s' => some (.nx s') | .out t => some (.out t)) = some j := by
  obtain ⟨o, h1, h2⟩ := bind_some h
  exact ⟨o, h1, by cases o <;> exact h2⟩
end
theorem ite_t {a : Type} {b : Bool} {x y : a} (h : b = true) : (if b = true then x else y) = x := if_pos h
theorem ite_f {a : Type} {b : Bool} {x y : a} (h : b = false) : (if b = true then x else y) = y := if_neg (by rw [h]; exact Bool.false_ne_true)
theorem i64_id {n : Int} (h1 : -9223372036854775808 ≤ n) (h2 : n ≤ 9223372036854775807) : i64 n = n := by
  unfold i64; rw [IntKind.wrap_i64]; omega
theorem i64_succ {i n : Nat} (h : i < n) (hn : n ≤ 9223372036854775807) : i64 ((i : Int) + 1) = ((i + 1 : Nat) : Int) := by
  rw [i64_id (by omega) (by omega)]; omega
theorem drop_idx {α : Type} {xs : List α} {i : Nat} {x : α} {rest : List α} (h : xs.drop i = x :: rest) : idx xs (i : Int) = some x := by
  unfold idx
  rw [if_pos (Int.natCast_nonneg i), Int.toNat_natCast]
  have := List.getElem?_drop (xs := xs) (i := i) (j := 0)
  rw [h] at this
  simpa using this.symm
theorem drop_next {α : Type} {xs : List α} {i : Nat} {x : α} {rest : List α} (h : xs.drop i = x :: rest) : xs.drop (i + 1) = rest := by
  have := congrArg List.tail h
  simpa [List.tail_drop] using this
theorem len_le {n : Nat} {v : Value} (h : ∃ base cap, v = .slice base n cap ∧ n ≤ cap ∧ cap ≤ maxLen) : n ≤ 9223372036854775807 := by
  obtain ⟨_, _, _, h1, h2⟩ := h
  rw [maxLen_eq] at h2; omega
theorem one_len {n : Nat} {v : Value} (h : ∃ base cap, v = .slice base n cap ∧ n ≤ cap ∧ cap ≤ maxLen) : v.oneCell' = true := by
  obtain ⟨_, _, rfl, _⟩ := h; rfl
theorem cells_one {v : Value} (h : v.oneCell' = true) : v.cells = #[v] := by cases v <;> simp_all [Value.cells, Value.oneCell']
theorem range0 : Array.range 0 = #[] := by simp [Array.range]
theorem cells_agg {cs : Array Value} : (Value.agg cs).cells = cs := rfl
theorem cells_int {k : IntKind} {n : Int} : (Value.int k n).cells = #[.int k n] := rfl
theorem cells_bool {b : Bool} : (Value.bool b).cells = #[.bool b] := rfl
theorem cells_str {b : ByteArray} : (Value.string b).cells = #[.string b] := rfl
theorem cells_sl {a : Option Addr} {n c : Nat} : (Value.slice a n c).cells = #[.slice a n c] := rfl
section code
variable {P : Program} {N : Nat} {Q : Post} {f : Fr} {w : World}
theorem W_join {c : Code} (R : Fr → World → Prop) (h : W P N c (fun e f w => match e with | .normal => R f w | e => Q e f w) f w) (hr : ∀ f w, R f w → Q .normal f w) : W P N c Q f w :=
  W_mono h fun e f w he => by cases e <;> first | exact hr _ _ he | exact he
theorem g_yes {ops : Array Oper} {d j dj : Nat} {want : Bool} (hj : (ops[j]?).bind (·.dst) = some dj) (hf : f dj = .bool want) (hN : Nat.blt d N = true) : ok1 ops f N d (some (j, want)) = true := by
  simp [ok1, yieldedF, hj, hf, hN]
theorem g_no {ops : Array Oper} {d j dj : Nat} {want b : Bool} (hj : (ops[j]?).bind (·.dst) = some dj) (hf : f dj = .bool b) (hb : (b == want) = false) (hN : Nat.blt d N = true) : (!ok0 ops f (some (j, want)) && Nat.blt d N) = true := by
  have : ¬ b = want := by intro e; rw [e] at hb; simp at hb
  simp [ok0, yieldedF, hj, hf, hN, this]
end code
def cntF (s : Nat) (e : Int) : Option Nat := if e ≤ 4294967296 ∧ s ≤ 4294967296 then some (e - s).toNat else none
theorem cntF_some {s : Nat} {e : Int} {k : Nat} (h : cntF s e = some k) : e ≤ 4294967296 ∧ s ≤ 4294967296 ∧ k = (e - s).toNat := by
  unfold cntF at h
  split at h
  · rename_i hl; exact ⟨hl.1, hl.2, by injection h with h; exact h.symm⟩
  · cases h
theorem cntF_le {s : Nat} {e : Int} {k : Nat} (h : cntF s e = some k) : s + k ≤ 9223372036854775807 := by have := cntF_some h; omega
theorem cntF_no {s : Nat} {e : Int} {i k : Nat} (hl : i + 0 = s + k) (h : cntF s e = some k) : ¬ (i : Int) < e := by have := cntF_some h; omega
theorem cntF_yes {s : Nat} {e : Int} {i k n : Nat} (hs : s ≤ i) (hl : i + (n + 1) = s + k) (h : cntF s e = some k) : (i : Int) < e := by have := cntF_some h; omega
theorem cntF_noL {s : Nat} {e : Int} {i k : Nat} (hl : i + 0 = s + k) (h : cntF s (e + 1) = some k) : ¬ (i : Int) ≤ e := by have := cntF_some h; omega
theorem cntF_yesL {s : Nat} {e : Int} {i k n : Nat} (hs : s ≤ i) (hl : i + (n + 1) = s + k) (h : cntF s (e + 1) = some k) : (i : Int) ≤ e := by have := cntF_some h; omega
theorem ones_nil : ∀ u ∈ ([] : List Value), u.oneCell' = true := by simp
theorem ones_cons {v : Value} {vs : List Value} (h : v.oneCell' = true) (hs : ∀ u ∈ vs, u.oneCell' = true) : ∀ u ∈ v :: vs, u.oneCell' = true := by
  intro u hu
  rcases List.mem_cons.1 hu with rfl | hu
  · exact h
  · exact hs u hu
theorem and_t {c e : Bool} {v : Value} (h : c = true) (hv : v = .bool e) : v = .bool (c && e) := by rw [h, hv]; rfl
theorem and_f {c e : Bool} (h : c = false) : Value.bool false = .bool (c && e) := by rw [h]; rfl
theorem or_t {c e : Bool} (h : c = true) : Value.bool true = .bool (c || e) := by rw [h]; rfl
theorem or_f {c e : Bool} {v : Value} (h : c = false) (hv : v = .bool e) : v = .bool (c || e) := by rw [h, hv]; rfl
theorem boolNo {b : Bool} {C : Prop} (h : b = true) (k : b = false) : C := by rw [h] at k; cases k
theorem andF {c e : Bool} (h : c = false) : (c && e) = false := by rw [h]; rfl
theorem args_of {a b : Array Value} (h : a.toList = b.toList) : a = b := Array.toList_inj.1 h
theorem args_app {a b : Array Value} {l : List Value} (h : a.toList = l) : (a ++ b).toList = l ++ b.toList := by rw [Array.toList_append, h]
def Fun1 (P : Program) {α β : Type} (ra : RP α) (ag : Bool) (rv : β → Value) (p : α → Option β) (v : Value) (H0 : FH) : Prop :=
  ∃ fid caps, v = .func (.func fid) #[] caps ∧ (∀ args w, (callFunc fid args).run P w = .ok (.enter fid args) w) ∧
    ∀ H w, Le H0 H → Star H w [] → ∀ cs x y args, ra.rel H cs x → p x = some y → args.toList = (cond ag [.agg cs.toArray] cs) ++ caps.toList →
      C P fid args w fun v w' => v = rv y ∧ Star H w' []
theorem Fun1.le {P : Program} {α β : Type} {ra : RP α} {ag : Bool} {rv : β → Value} {p : α → Option β} {v : Value} {H0 H1 : FH} (h : Fun1 P ra ag rv p v H0) (e : Le H0 H1) : Fun1 P ra ag rv p v H1 := by
  obtain ⟨fid, caps, hv, hc, h⟩ := h
  exact ⟨fid, caps, hv, hc, fun H w e2 => h H w (e.trans e2)⟩
def Fun2 (P : Program) {α1 α2 β : Type} (r1 : RP α1) (r2 : RP α2) (ag : Bool) (rv : β → Value) (p : α1 → α2 → Option β) (v : Value) (H0 : FH) : Prop :=
  ∃ fid caps, v = .func (.func fid) #[] caps ∧ (∀ args w, (callFunc fid args).run P w = .ok (.enter fid args) w) ∧
    ∀ H w, Le H0 H → Star H w [] → ∀ cs1 cs2 x1 x2 y args, r1.rel H cs1 x1 → r2.rel H cs2 x2 → p x1 x2 = some y → args.toList = (cond ag [.agg cs1.toArray, .agg cs2.toArray] (cs1 ++ cs2)) ++ caps.toList →
      C P fid args w fun v w' => v = rv y ∧ Star H w' []
theorem Fun2.le {P : Program} {α1 α2 β : Type} {r1 : RP α1} {r2 : RP α2} {ag : Bool} {rv : β → Value} {p : α1 → α2 → Option β} {v : Value} {H0 H1 : FH} (h : Fun2 P r1 r2 ag rv p v H0) (e : Le H0 H1) : Fun2 P r1 r2 ag rv p v H1 := by
  obtain ⟨fid, caps, hv, hc, h⟩ := h
  exact ⟨fid, caps, hv, hc, fun H w e2 => h H w (e.trans e2)⟩
end Go.E
