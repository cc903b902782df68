/- One rule for each kind of operation. -/
import Derived.Test.YteeilbddjlpiaaaG2
import Derived.Laws.Cover3
namespace Go.E
open Go Go.RowKit
set_option linter.unusedVariables false
abbrev i64 (n : Int) : Int := IntKind.i64.wrap n
def idx {α : Type} (xs : List α) (k : Int) : Option α := if 0 ≤ k then xs[k.toNat]? else none
theorem idx_some {α : Type} {xs : List α} {k : Int} {x : α} (h : idx xs k = some x) : 0 ≤ k ∧ xs[k.toNat]? = some x ∧ k.toNat < xs.length := by
  unfold idx at h
  split at h
  · rename_i hk; exact ⟨hk, h, (List.getElem?_eq_some_iff.1 h).1⟩
  · cases h
def At (w : World) (g o : Nat) (cs : List Value) : Prop := ∃ c t fz, w.heap[g]? = some (.cells c t fz) ∧ ∀ j v, cs[j]? = some v → c[o + j]? = some v
def AtH (H : FH) (g o : Nat) (cs : List Value) : Prop := ∃ c t fz, H.m g = some (.cells c t fz) ∧ ∀ j v, cs[j]? = some v → c[o + j]? = some v
theorem AtH.le {H H' : FH} {g o : Nat} {cs : List Value} (h : AtH H g o cs) (k : Le H H') : AtH H' g o cs := by
  obtain ⟨c, t, fz, hc, hj⟩ := h
  exact ⟨c, t, fz, k.2 _ _ hc, hj⟩
theorem AtH.at {H : FH} {w : World} {g o : Nat} {cs : List Value} (h : AtH H g o cs) (k : Sub H w) : At w g o cs := by
  obtain ⟨c, t, fz, hc, hj⟩ := h
  exact ⟨c, t, fz, k.2 _ _ hc, hj⟩
theorem AtH.of {H : FH} {g : Nat} {t : TypeId} {cs : Array Value} (h : H.m g = some (.cells cs t (0, 0))) : AtH H g 0 cs.toList := ⟨cs, t, _, h, fun j v hj => by simpa using hj⟩
theorem At.cell {w : World} {g o : Nat} {cs : List Value} (h : At w g o cs) {j : Nat} {v : Value} (hj : cs[j]? = some v) : w.cell? ⟨g, o + j, none⟩ = some v := by
  obtain ⟨c, t, fz, hc, h⟩ := h
  simp [World.cell?, hc, h j v hj]
theorem At.cell0 {w : World} {g : Nat} {cs : List Value} (h : At w g 0 cs) {j : Nat} {v : Value} (hj : cs[j]? = some v) : w.cell? ⟨g, j, none⟩ = some v := by
  have := h.cell hj
  rwa [Nat.zero_add] at this
theorem At.sub {w : World} {g b : Nat} {cs : List Value} (h : At w g b cs) (o n : Nat) : At w g (b + o) ((cs.drop o).take n) := by
  obtain ⟨c, t, fz, hc, h⟩ := h
  refine ⟨c, t, fz, hc, fun j v hj => ?_⟩
  rw [List.getElem?_take] at hj
  split at hj
  · rw [List.getElem?_drop] at hj
    have := h _ v hj
    rwa [show b + o + j = b + (o + j) from by omega]
  · cases hj
theorem At.sub0 {w : World} {g : Nat} {cs : List Value} (h : At w g 0 cs) (o n : Nat) : At w g o ((cs.drop o).take n) := by
  have := h.sub o n
  rwa [Nat.zero_add] at this
theorem Blk.at {w : World} {g : Nat} {t : TypeId} {cs : Array Value} (h : Blk w g t cs) : At w g 0 cs.toList := ⟨cs, t, _, h, fun j v hj => by simpa using hj⟩
theorem Blk.cell {w : World} {g : Nat} {t : TypeId} {cs : Array Value} (h : Blk w g t cs) {j : Nat} {v : Value} (hj : cs[j]? = some v) : w.cell? ⟨g, j, none⟩ = some v := by
  unfold Blk at h
  simp [World.cell?, h, hj]
def xorI (k : IntKind) (m n : Int) : Int := k.wrap (((BitVec.ofInt k.bits m ^^^ BitVec.ofInt k.bits n).toNat : Nat) : Int)
def isNilS : Value → Bool
  | .slice none _ _ => true
  | _ => false
theorem nil_of {H : FH} {α : Type} {r : RP α} {e : TypeId} {v : Value} {xs : List α} (h : (RP.slice e r).rel H [v] xs) (hn : isNilS v = true) : xs = [] := by
  obtain ⟨base, cap, hv, _, _, hx⟩ := h
  obtain rfl : v = .slice base xs.length cap := by simpa using hv
  cases base with
  | some a => cases hn
  | none =>
    by_cases hne : xs = []
    · exact hne
    · obtain ⟨g, o, c, t', fz, hb, _⟩ := hx hne; cases hb
section rules
variable {P : Program} {N : Nat} {Q : Post} {f : Fr} {w : World} {ops : Array Oper} {rest : List Oper} {d : Nat} {ty : TypeId} {pos : String} {af : Array Edge} {gd : Option (Nat × Bool)}
def ok1 (ops : Array Oper) (f : Fr) (N d : Nat) (gd : Option (Nat × Bool)) : Bool :=
  (match gd with | none => true | some (j, want) => yieldedF ops f j == some want) && Nat.blt d N
def ok0 (ops : Array Oper) (f : Fr) (gd : Option (Nat × Bool)) : Bool :=
  match gd with | none => true | some (j, want) => yieldedF ops f j == some want
theorem L_pure {op : Op} {v : Value} {w' : World} (hk : ok1 ops f N d gd = true)
    (hr : (execOp (ev f) ⟨some d, op, ty, pos, af, gd⟩).run P w = .ok (.value v) w') (h : L P N ops rest Q (upd f d v) w') :
    L P N ops (⟨some d, op, ty, pos, af, gd⟩ :: rest) Q f w := by
  unfold ok1 at hk
  rw [Bool.and_eq_true] at hk
  exact L_val (by cases gd <;> exact hk.1) rfl (Nat.le_of_ble_eq_true hk.2) hr h
theorem L_none {op : Op} {w' : World} (hk : ok0 ops f gd = true)
    (hr : (execOp (ev f) ⟨none, op, ty, pos, af, gd⟩).run P w = .ok .skip w') (h : L P N ops rest Q f w') :
    L P N ops (⟨none, op, ty, pos, af, gd⟩ :: rest) Q f w :=
  L_eff (by cases gd <;> exact hk) rfl hr h
theorem L_pass {op : Op} (hk : (!ok0 ops f gd && Nat.blt d N) = true) (h : L P N ops rest Q (upd f d undef) w) : L P N ops (⟨some d, op, ty, pos, af, gd⟩ :: rest) Q f w := by
  rw [Bool.and_eq_true] at hk
  refine L_not ?_ rfl (Nat.le_of_ble_eq_true hk.2) h
  have h1 := hk.1
  unfold ok0 at h1
  cases gd with
  | none => simp at h1
  | some p => simpa [Region.wanted] using h1
variable {x y : Operand} {v : Value}
theorem L_mv (hk : ok1 ops f N d gd = true) (hx : ev f x = v) (h : L P N ops rest Q (upd f d v) w) : L P N ops (⟨some d, .move x, ty, pos, af, gd⟩ :: rest) Q f w :=
  L_pure hk (by rw [← hx]; rfl) h
theorem L_as (hk : ok1 ops f N d gd = true) (hx : ev f x = v) (h : L P N ops rest Q (upd f d v) w) : L P N ops (⟨some d, .assign x, ty, pos, af, gd⟩ :: rest) Q f w :=
  L_pure hk (by rw [← hx]; rfl) h
theorem L_nc {a : Addr} (hk : ok1 ops f N d gd = true) (hx : ev f x = .pointer (some a)) (h : L P N ops rest Q (upd f d (.pointer (some a))) w) :
    L P N ops (⟨some d, .nilCheck x, ty, pos, af, gd⟩ :: rest) Q f w :=
  L_pure hk (by simp [execOp, hx]) h
theorem L_pick {c : Operand} {b : Bool} (hk : ok1 ops f N d gd = true) (hc : ev f c = .bool b) (hv : (if b then ev f x else ev f y) = v) (h : L P N ops rest Q (upd f d v) w) :
    L P N ops (⟨some d, .pick c x y, ty, pos, af, gd⟩ :: rest) Q f w :=
  L_pure hk (by simp [execOp, hc, asBool, hv]) h
theorem L_not_ {b : Bool} {t : TypeId} (hk : ok1 ops f N d gd = true) (hx : ev f x = .bool b) (h : L P N ops rest Q (upd f d (.bool (!b))) w) :
    L P N ops (⟨some d, .unOp .not t x, ty, pos, af, gd⟩ :: rest) Q f w :=
  L_pure hk (by simp [execOp, hx, Op.unary]) h
theorem L_neg {n : Int} {t : TypeId} (hk : ok1 ops f N d gd = true) (hx : ev f x = .int .i64 n) (h : L P N ops rest Q (upd f d (.int .i64 (i64 (-n)))) w) :
    L P N ops (⟨some d, .unOp .neg t x, ty, pos, af, gd⟩ :: rest) Q f w :=
  L_pure hk (by simp [execOp, hx, Op.unary, Op.intArith]) h
section bin
variable {k : IntKind} {m n : Int} {t u : TypeId}
theorem L_add (hk : ok1 ops f N d gd = true) (hx : ev f x = .int k m) (hy : ev f y = .int k n) (h : L P N ops rest Q (upd f d (.int k (k.wrap (m + n)))) w) :
    L P N ops (⟨some d, .binOp .add t x y u, ty, pos, af, gd⟩ :: rest) Q f w :=
  L_pure hk (by simp [execOp, hx, hy, eqGuard, binOp, Op.intArith]) h
theorem L_sub (hk : ok1 ops f N d gd = true) (hx : ev f x = .int k m) (hy : ev f y = .int k n) (h : L P N ops rest Q (upd f d (.int k (k.wrap (m - n)))) w) :
    L P N ops (⟨some d, .binOp .sub t x y u, ty, pos, af, gd⟩ :: rest) Q f w :=
  L_pure hk (by simp [execOp, hx, hy, eqGuard, binOp, Op.intArith]) h
theorem L_mul (hk : ok1 ops f N d gd = true) (hx : ev f x = .int k m) (hy : ev f y = .int k n) (h : L P N ops rest Q (upd f d (.int k (k.wrap (m * n)))) w) :
    L P N ops (⟨some d, .binOp .mul t x y u, ty, pos, af, gd⟩ :: rest) Q f w :=
  L_pure hk (by simp [execOp, hx, hy, eqGuard, binOp, Op.intArith]) h
theorem L_quo (hk : ok1 ops f N d gd = true) (hx : ev f x = .int k m) (hy : ev f y = .int k n) (h0 : n ≠ 0) (h : L P N ops rest Q (upd f d (.int k (k.wrap (m.tdiv n)))) w) :
    L P N ops (⟨some d, .binOp .quo t x y u, ty, pos, af, gd⟩ :: rest) Q f w :=
  L_pure hk (by simp [execOp, hx, hy, eqGuard, binOp, Op.intDiv, h0]) h
theorem L_rem (hk : ok1 ops f N d gd = true) (hx : ev f x = .int k m) (hy : ev f y = .int k n) (h0 : n ≠ 0) (h : L P N ops rest Q (upd f d (.int k (m.tmod n))) w) :
    L P N ops (⟨some d, .binOp .rem t x y u, ty, pos, af, gd⟩ :: rest) Q f w :=
  L_pure hk (by simp [execOp, hx, hy, eqGuard, binOp, Op.intDiv, h0]) h
theorem L_eql (hk : ok1 ops f N d gd = true) (hx : ev f x = .int k m) (hy : ev f y = .int k n) (h : L P N ops rest Q (upd f d (.bool (m == n))) w) :
    L P N ops (⟨some d, .binOp .eql t x y u, ty, pos, af, gd⟩ :: rest) Q f w :=
  L_pure hk (by simp [execOp, hx, hy, eqGuard, binOp, Op.intCmp]) h
theorem L_neq (hk : ok1 ops f N d gd = true) (hx : ev f x = .int k m) (hy : ev f y = .int k n) (h : L P N ops rest Q (upd f d (.bool (m != n))) w) :
    L P N ops (⟨some d, .binOp .neq t x y u, ty, pos, af, gd⟩ :: rest) Q f w :=
  L_pure hk (by simp [execOp, hx, hy, eqGuard, binOp, Op.intCmp]) h
theorem L_lss (hk : ok1 ops f N d gd = true) (hx : ev f x = .int k m) (hy : ev f y = .int k n) (h : L P N ops rest Q (upd f d (.bool (decide (m < n)))) w) :
    L P N ops (⟨some d, .binOp .lss t x y u, ty, pos, af, gd⟩ :: rest) Q f w :=
  L_pure hk (by simp [execOp, hx, hy, eqGuard, binOp, Op.intCmp]) h
theorem L_leq (hk : ok1 ops f N d gd = true) (hx : ev f x = .int k m) (hy : ev f y = .int k n) (h : L P N ops rest Q (upd f d (.bool (decide (m ≤ n)))) w) :
    L P N ops (⟨some d, .binOp .leq t x y u, ty, pos, af, gd⟩ :: rest) Q f w :=
  L_pure hk (by simp [execOp, hx, hy, eqGuard, binOp, Op.intCmp]) h
theorem L_gtr (hk : ok1 ops f N d gd = true) (hx : ev f x = .int k m) (hy : ev f y = .int k n) (h : L P N ops rest Q (upd f d (.bool (decide (n < m)))) w) :
    L P N ops (⟨some d, .binOp .gtr t x y u, ty, pos, af, gd⟩ :: rest) Q f w :=
  L_pure hk (by simp [execOp, hx, hy, eqGuard, binOp, Op.intCmp]) h
theorem L_geq (hk : ok1 ops f N d gd = true) (hx : ev f x = .int k m) (hy : ev f y = .int k n) (h : L P N ops rest Q (upd f d (.bool (decide (n ≤ m)))) w) :
    L P N ops (⟨some d, .binOp .geq t x y u, ty, pos, af, gd⟩ :: rest) Q f w :=
  L_pure hk (by simp [execOp, hx, hy, eqGuard, binOp, Op.intCmp]) h
theorem L_shl {ky : IntKind} (hk : ok1 ops f N d gd = true) (hx : ev f x = .int k m) (hy : ev f y = .int ky n) (h0 : 0 ≤ n) (h : L P N ops rest Q (upd f d (.int k (k.wrap (m * 2 ^ (min n.toNat k.bits))))) w) :
    L P N ops (⟨some d, .binOp .shl t x y u, ty, pos, af, gd⟩ :: rest) Q f w :=
  L_pure hk (by simp [execOp, hx, hy, eqGuard, binOp, Op.shift, Int.not_lt.2 h0]) h
end bin
section strings
variable {s s' : ByteArray} {t u : TypeId}
end strings
theorem run_loadVar1 {t : TypeId} {a : Addr} (hag : ∀ w, (isAgg t).run P w = .ok false w) (hc : w.cell? a = some v) : (loadVar t a).run P w = .ok v w := by
  simp [loadVar, hag, hc]
theorem L_ld {t : TypeId} {a : Addr} (hk : ok1 ops f N d gd = true) (hag : ∀ w, (isAgg t).run P w = .ok false w) (hx : ev f x = .pointer (some a)) (hc : w.cell? a = some v)
    (h : L P N ops rest Q (upd f d v) w) : L P N ops (⟨some d, .load t x, ty, pos, af, gd⟩ :: rest) Q f w :=
  L_pure hk (by simp [execOp, hx, Instr.loadAt, Instr.sureAddr, run_loadVar1 hag hc]) h
theorem add_lit (g o n : Nat) : (⟨g, o, none⟩ : Addr).add n = ⟨g, o + n, none⟩ := by
  unfold Addr.add; split <;> simp_all
theorem run_loadCellsFrom (g o : Nat) : ∀ (n i : Nat) (acc : Array Value) (cs : List Value), cs.length = n → (∀ j v, cs[j]? = some v → w.cell? ⟨g, o + (i + j), none⟩ = some v) →
    (loadCellsFrom ⟨g, o, none⟩ i n acc).run P w = .ok (acc ++ cs.toArray) w := by
  intro n
  induction n with
  | zero =>
    intro i acc cs hl _
    have : cs = [] := List.eq_nil_of_length_eq_zero hl
    subst this
    simp [loadCellsFrom]
  | succ n ih =>
    intro i acc cs hl hc
    cases cs with
    | nil => simp at hl
    | cons v cs =>
      have h0 := hc 0 v rfl
      have h1 := ih (i + 1) (acc.push v) cs (by simpa using hl) fun j u hj => by
        have := hc (j + 1) u (by simpa using hj)
        rwa [show i + 1 + j = i + (j + 1) from by omega]
      simp only [loadCellsFrom, add_lit, Sem.run_bind, run_load]
      rw [show o + i = o + (i + 0) from rfl, h0]
      simp only [Result.andThen_ok, h1]
      simp
theorem L_lda {t : TypeId} {g o n : Nat} {cs : List Value} (hk : ok1 ops f N d gd = true) (hag : ∀ w, (isAgg t).run P w = .ok true w) (hsz : ∀ w, (sizeOf t).run P w = .ok n w)
    (hx : ev f x = .pointer (some ⟨g, o, none⟩)) (hc : At w g o cs) (hl : cs.length = n)
    (h : L P N ops rest Q (upd f d (.agg cs.toArray)) w) : L P N ops (⟨some d, .load t x, ty, pos, af, gd⟩ :: rest) Q f w :=
  L_pure hk (by
    have h1 := run_loadCellsFrom (P := P) (w := w) g o n 0 #[] cs hl fun j u hj => by rw [Nat.zero_add]; exact hc.cell hj
    simp [execOp, hx, Instr.loadAt, Instr.sureAddr, loadVar, hag, hsz, loadCells, h1]) h
theorem frozen_blk {g o : Nat} {t : TypeId} {cs : Array Value} (hb : Blk w g t cs) : w.frozen? ⟨g, o, none⟩ = false := by
  unfold Blk at hb; simp [World.frozen?, hb]
theorem run_storeVar1 {t tb : TypeId} {g o : Nat} {cs : Array Value} {u : Value} (hsz : ∀ w, (sizeOf t).run P w = .ok 1 w) (hb : Blk w g tb cs) (hc : cs[o]? = some u) (h1 : v.oneCell' = true) :
    (storeVar t ⟨g, o, none⟩ v).run P w = .ok () (w.setCell ⟨g, o, none⟩ v) := by
  have hcells : v.cells = #[v] := by cases v <;> simp_all [Value.cells, Value.oneCell']
  have h2 : w.cell? ⟨g, o, none⟩ = some u := hb.cell hc
  simp [storeVar, hsz, hcells, storeCells, add_lit, run_store _ _ _ _ _ h1, h2, frozen_blk hb]
def PutB (g : Nat) (w w' : World) : Prop := Below 0 w w' ∧ ∀ k, k < w.heap.size → k ≠ g → w'.heap[k]? = w.heap[k]?
theorem PutB.trans {g : Nat} {a b c : World} (h : PutB g a b) (k : PutB g b c) : PutB g a c :=
  ⟨h.1.trans k.1, fun j hj hne => (k.2 j (Nat.lt_of_lt_of_le hj h.1.size) hne).trans (h.2 j hj hne)⟩
theorem PutB.refl (g : Nat) (w : World) : PutB g w w := ⟨Below.refl 0 w, fun _ _ _ => rfl⟩
theorem putB_setCell {g o : Nat} {v : Value} {w : World} : PutB g w (w.setCell ⟨g, o, none⟩ v) :=
  ⟨⟨rfl, rfl, rfl, by simp [World.setCell], fun k hk => by omega⟩, fun k _ hne => Below.heap_setCell _ _ _ _ (by simpa using hne)⟩
theorem blk_setCell {g o : Nat} {t : TypeId} {cs : Array Value} {v : Value} {w : World} (hb : Blk w g t cs) : Blk (w.setCell ⟨g, o, none⟩ v) g t (cs.setIfInBounds o v) := by
  unfold Blk at hb ⊢
  simp [World.setCell, Array.getElem?_modify, hb]
theorem Sub.put {H : FH} {g : Nat} {w w' : World} (h : Sub H w) (p : PutB g w w') (hg : H.m g = none) : Sub H w' :=
  ⟨h.1.trans p.1, fun b o x => by
    have h1 := h.2 b o x
    refine (p.2 b (Array.getElem?_eq_some_iff.1 h1).1 ?_).trans h1
    rintro rfl; rw [hg] at x; cases x⟩
theorem Star.put {H : FH} {g : Nat} {w w' : World} {A B : Ass} {As : List Ass} (h : Star H w (A :: As)) (p : PutB g w w') (hB : ∀ F, A.p H w F → F.Nodup → (∀ b ∈ F, b < w.heap.size) → g ∈ F ∧ ∃ F', B.p H w' F' ∧ F'.Perm F) : Star H w' (B :: As) := by
  obtain ⟨hs, F, hA, hn, hm, key⟩ := h.upd
  obtain ⟨hg, F', hB', hp⟩ := hB F hA hn fun b hb => (hm b hb).2
  refine key (B := [B]) (Le.refl _) (hs.put p (hm g hg).1) (fun b hb hne => p.2 b hb (by rintro rfl; exact hne hg)) (fun b o x => .inl x) ⟨F', ⟨F', [], by simp, hB', rfl⟩, hp.nodup_iff.2 hn, fun b hb => ?_⟩
  have := hp.mem_iff.1 hb
  exact ⟨.inl this, (hm b this).1⟩
theorem Star.new {H : FH} {w w' : World} {As : List Ass} {t : TypeId} {cs : Array Value} (h : Star H w As) (hb : Below 0 w w') (hk : ∀ k, k < w.heap.size → w'.heap[k]? = w.heap[k]?) (hn : Blk w' w.heap.size t cs) : Star H w' (box w.heap.size t cs :: As) := by
  obtain ⟨hs, F, hA, hnd, hm, key⟩ := h.emp.upd
  have hA : F = [] := hA
  subst hA
  refine key (B := [box w.heap.size t cs]) (Le.refl _) ⟨hs.1.trans hb, fun b o x => ?_⟩ (fun b hb _ => hk b hb) (fun b o x => .inl x) ⟨[w.heap.size], ⟨[w.heap.size], [], rfl, ⟨rfl, hn⟩, rfl⟩, by simp, fun b hb => ?_⟩
  · have h1 := hs.2 b o x
    exact (hk b (Array.getElem?_eq_some_iff.1 h1).1).trans h1
  · simp at hb; subst hb
    exact ⟨.inr (Nat.le_refl _), hs.lt (Nat.le_refl _)⟩
theorem Star.alloc {H : FH} {w : World} {As : List Ass} {t : TypeId} {cs : Array Value} (h : Star H w As) : Star H (w.alloc (.cells cs t)) (box w.heap.size t cs :: As) :=
  h.new ⟨rfl, rfl, rfl, by simp, fun k hk => by omega⟩ (fun k hk => heap_alloc_old w _ hk) (heap_alloc_new w _)
theorem Star.drew {H : FH} {w : World} {As : List Ass} (n : Nat) (h : Star H w As) : Star H { w with drawn := n } As := by
  obtain ⟨hs, F, h1, hn, hm⟩ := h
  exact ⟨⟨⟨hs.1.os, hs.1.tape, hs.1.output, hs.1.size, fun k hk => by omega⟩, hs.2⟩, F, SepL.loc h1 fun _ _ => rfl, hn, hm⟩
theorem Star.blk {H : FH} {w : World} {g : Nat} {t : TypeId} {cs : Array Value} {As : List Ass} (h : Star H w (box g t cs :: As)) : Blk w g t cs := by
  obtain ⟨F, _, hb⟩ := h.one
  exact hb
theorem Star.blkAt {H : FH} {w : World} {g : Nat} {t : TypeId} {cs : Array Value} {As Bs : List Ass} (i : Nat) (h : Star H w As) (hp : pick i As = some (box g t cs, Bs)) : Blk w g t cs := (h.get i hp).blk
theorem L_stB {H : FH} {As Bs : List Ass} {t tb : TypeId} {g o : Nat} {cs cs2 : Array Value} {u : Value} (i : Nat) (hk : ok0 ops f gd = true) (hsz : ∀ w, (sizeOf t).run P w = .ok 1 w)
    (hx : ev f x = .pointer (some ⟨g, o, none⟩)) (hy : ev f y = v) (h1 : v.oneCell' = true) (hst : Star H w As) (hp : pick i As = some (box g tb cs, Bs)) (hc : cs[o]? = some u) (he : cs.setIfInBounds o v = cs2)
    (h : ∀ w', Star H w' (box g tb cs2 :: Bs) → L P N ops rest Q f w') : L P N ops (⟨none, .store t x y, ty, pos, af, gd⟩ :: rest) Q f w := by
  have hst := hst.get i hp
  have hb := hst.blk
  refine L_none (w' := w.setCell ⟨g, o, none⟩ v) hk (by simp [execOp, hx, hy, Instr.storeAt, Instr.sureAddr, run_storeVar1 hsz hb hc h1]) (h _ ?_)
  refine hst.put (g := g) putB_setCell fun F hF _ _ => ⟨by rw [hF.1]; simp, [g], ⟨rfl, ?_⟩, by rw [hF.1]⟩
  rw [← he]; exact blk_setCell hb
theorem run_storeCells (tb : TypeId) (g o : Nat) : ∀ (vs : List Value) (i : Nat) (cs : Array Value) (w : World), Blk w g tb cs → o + i + vs.length ≤ cs.size → (∀ u ∈ vs, u.oneCell' = true) →
    ∃ w', (storeCells ⟨g, o, none⟩ vs i).run P w = .ok () w' ∧ PutB g w w' ∧ ∃ cs', Blk w' g tb cs' ∧ cs'.size = cs.size ∧ (∀ j u, vs[j]? = some u → cs'[o + i + j]? = some u) ∧ (∀ j, j < o + i ∨ o + i + vs.length ≤ j → cs'[j]? = cs[j]?) := by
  intro vs
  induction vs with
  | nil =>
    intro i cs w hb _ _
    exact ⟨w, by simp [storeCells], PutB.refl _ _, cs, hb, rfl, by simp, fun _ _ => rfl⟩
  | cons v vs ih =>
    intro i cs w hb hs h1
    have hs' : o + i < cs.size := by simp at hs; omega
    have hb2 := blk_setCell (v := v) (o := o + i) hb
    obtain ⟨w', hr, hm, cs', hb', hsz, hin, hout⟩ := ih (i + 1) _ _ hb2 (by simp at hs ⊢; omega) fun u hu => h1 u (List.mem_cons_of_mem _ hu)
    refine ⟨w', ?_, putB_setCell.trans hm, cs', hb', by simpa using hsz, ?_, ?_⟩
    · have hc : w.cell? ⟨g, o + i, none⟩ = some (cs[o + i]'hs') := hb.cell (Array.getElem?_eq_getElem hs')
      simp [storeCells, add_lit, run_store _ _ _ _ _ (h1 v (by simp)), hc, frozen_blk hb, hr]
    · intro j u hj
      cases j with
      | zero =>
        rw [Nat.add_zero, hout (o + i) (by omega)]
        simp at hj
        simp [hs', hj]
      | succ j => simpa [show o + (i + 1) + j = o + i + (j + 1) from by omega] using hin j u (by simpa using hj)
    · intro j hj
      rw [hout j (by simp at hj; omega)]
      simp at hj
      rw [Array.getElem?_setIfInBounds_ne (by omega)]
theorem arr_ext {a b : Array Value} (h : a.size = b.size) (h2 : ∀ j, j < b.size → a[j]? = b[j]?) : a = b := by
  apply Array.ext h
  intro j h1 h3
  have := h2 j h3
  rw [Array.getElem?_eq_getElem h1, Array.getElem?_eq_getElem h3] at this
  injection this
def splice (cs : Array Value) (o : Nat) (vs : List Value) : Array Value := (cs.toList.take o ++ vs ++ cs.toList.drop (o + vs.length)).toArray
theorem splice_of {cs cs' : Array Value} {o : Nat} {vs : List Value} (hs : cs'.size = cs.size) (hf : o + vs.length ≤ cs.size) (hin : ∀ j u, vs[j]? = some u → cs'[o + j]? = some u) (hout : ∀ j, j < o ∨ o + vs.length ≤ j → cs'[j]? = cs[j]?) : cs' = splice cs o vs := by
  have hl : (splice cs o vs).size = cs.size := by simp [splice]; omega
  refine arr_ext (by omega) fun j hj => ?_
  simp only [splice, List.getElem?_toArray, List.append_assoc]
  rcases Nat.lt_or_ge j o with h | h
  · rw [hout j (.inl h), List.getElem?_append_left (by simp; omega), List.getElem?_take_of_lt h]; simp
  · rw [List.getElem?_append_right (by simp; omega)]
    have e1 : (cs.toList.take o).length = o := by simp; omega
    rw [e1]
    rcases Nat.lt_or_ge (j - o) vs.length with h2 | h2
    · rw [List.getElem?_append_left h2]
      have := hin (j - o) vs[j - o] (List.getElem?_eq_getElem h2)
      rw [show o + (j - o) = j from by omega] at this
      rw [this, List.getElem?_eq_getElem h2]
    · rw [List.getElem?_append_right h2, hout j (.inr (by omega)), List.getElem?_drop]
      simp; congr 1; omega
theorem L_staB {H : FH} {As Bs : List Ass} {t tb : TypeId} {g o n : Nat} {cs cs2 vs : Array Value} (i : Nat) (hk : ok0 ops f gd = true) (hsz : ∀ w, (sizeOf t).run P w = .ok n w)
    (hx : ev f x = .pointer (some ⟨g, o, none⟩)) (hy : ev f y = .agg vs) (hn : vs.size = n) (h1 : ∀ u ∈ vs.toList, u.oneCell' = true) (hst : Star H w As) (hp : pick i As = some (box g tb cs, Bs)) (hc : o + n ≤ cs.size) (he : splice cs o vs.toList = cs2)
    (h : ∀ w', Star H w' (box g tb cs2 :: Bs) → L P N ops rest Q f w') : L P N ops (⟨none, .store t x y, ty, pos, af, gd⟩ :: rest) Q f w := by
  have hst := hst.get i hp
  have hb := hst.blk
  obtain ⟨w', hr, hm, cs', hb', hs', hin, hout⟩ := run_storeCells (P := P) tb g o vs.toList 0 cs w hb (by simp; omega) h1
  refine L_none hk ?_ (h w' ?_)
  · simp [execOp, hx, hy, Instr.storeAt, Instr.sureAddr, storeVar, hsz, Value.cells, hn, hr]
  · have : cs' = cs2 := by rw [← he]; exact splice_of hs' (by simp; omega) (by simpa using hin) (by simpa using hout)
    subst this
    exact hst.put (g := g) hm fun F hF _ _ => ⟨by rw [hF.1]; simp, [g], ⟨rfl, hb'⟩, by rw [hF.1]⟩
def FA (P : Program) (t : TypeId) (j off : Nat) : Prop := ∀ g o w, (Instr.fieldAt t (.pointer (some ⟨g, o, none⟩)) j).run P w = .ok (.pointer (some ⟨g, o + off, none⟩)) w
theorem L_fa {t : TypeId} {j off g o o' : Nat} (hk : ok1 ops f N d gd = true) (hf : FA P t j off) (hx : ev f x = .pointer (some ⟨g, o, none⟩)) (ho : o + off = o')
    (h : L P N ops rest Q (upd f d (.pointer (some ⟨g, o', none⟩))) w) : L P N ops (⟨some d, .fieldAddr t x j, ty, pos, af, gd⟩ :: rest) Q f w :=
  L_pure hk (by subst ho; simp [execOp, hx, hf g o w]) h
theorem fa_of {t : TypeId} {j off : Nat} {fs : Array Field} {fd : Field} (hu : P.underlying t = some (.struct fs)) (hj : fs[j]? = some fd) {n : Nat} (hs : ∀ w, (sizeOf fd.type).run P w = .ok (n + 1) w) (ho : fd.offset = off) : FA P t j off := by
  intro g o w
  simp [Instr.fieldAt, run_underlying hu, hj, Instr.sureAddr, fieldPlace, hs, add_lit, ho]
theorem L_ix {H : FH} {α : Type} {r : RP α} {t e : TypeId} {xs : List α} {k : Int} {z : α} (hk : ok1 ops f N d gd = true) (hu : P.underlying t = some (.slice e)) (hsz : ∀ w, (sizeOf e).run P w = .ok r.n w)
    (hx : ev f x = v) (hs : (RP.slice e r).rel H [v] xs) (hy : ev f y = .int .i64 k) (hi' : idx xs k = some z)
    (h : ∀ g o cs, r.rel H cs z → AtH H g o cs → L P N ops rest Q (upd f d (.pointer (some ⟨g, o, none⟩))) w) : L P N ops (⟨some d, .indexAddr t x y, ty, pos, af, gd⟩ :: rest) Q f w := by
  obtain ⟨h0, hz, hlt⟩ := idx_some hi'
  obtain ⟨base, cap, hv, _, _, hel⟩ := hs
  have hv' : v = .slice base xs.length cap := by simpa using hv
  obtain ⟨g, o, c, t', fz, rfl, hc, he⟩ := hel (by rintro rfl; simp at hlt)
  obtain ⟨cs, hr, hcs⟩ := he _ _ hz
  refine L_pure hk ?_ (h g (o + k.toNat * r.n) cs hr ⟨c, _, fz, hc, hcs⟩)
  have hlt' : k < (xs.length : Int) := by omega
  simp [execOp, hx, hy, hv', Instr.indexAt, asIntOf, run_underlying hu, h0, hlt', hsz, add_lit]
theorem L_xor {k : IntKind} {m n : Int} {t u : TypeId} (hk : ok1 ops f N d gd = true) (hx : ev f x = .int k m) (hy : ev f y = .int k n) (h : L P N ops rest Q (upd f d (.int k (xorI k m n))) w) :
    L P N ops (⟨some d, .binOp .xor t x y u, ty, pos, af, gd⟩ :: rest) Q f w :=
  L_pure hk (by simp [execOp, hx, hy, eqGuard, binOp, Op.intBits, xorI]) h
theorem L_nileq {e b c : Nat} {a : Option Addr} {t u : TypeId} (hk : ok1 ops f N d gd = true) (ht : P.underlying t = some (.slice e)) (hx : ev f x = .slice a b c) (hy : ev f y = .slice none 0 0)
    (h : L P N ops rest Q (upd f d (.bool (isNilS (.slice a b c)))) w) : L P N ops (⟨some d, .binOp .eql t x y u, ty, pos, af, gd⟩ :: rest) Q f w :=
  L_pure hk (by cases a <;> simp [execOp, hx, hy, eqGuard, binOp, run_equal_slice_nil _ _ _ _ _ _ ht, isNilS]) h
end rules
end Go.E
