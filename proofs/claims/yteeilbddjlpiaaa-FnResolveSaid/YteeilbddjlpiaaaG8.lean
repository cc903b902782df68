/- The program's data as Lean structures, and how each lies in cells; rows whose elements own rows. -/
import Derived.Test.YteeilbddjlpiaaaG7
namespace Go.E
open Go Go.RowKit
set_option linter.unusedVariables false
set_option linter.unusedSimpArgs false
structure Term where
  coef : Int
  lit : Int
  deriving DecidableEq
structure Con where
  terms : List Term
  bound : Int
  deriving DecidableEq
structure Rd where
  b : List UInt8
  p : Int
theorem pair1 {α β : Type} {a : RP α} {b : RP β} (ha : a.n = 1) {H : FH} {cs : List Value} {p : α × β} :
    (RP.pair a b).rel H cs p ↔ ∃ v c2, cs = v :: c2 ∧ a.rel H [v] p.1 ∧ b.rel H c2 p.2 := by
  constructor
  · rintro ⟨c1, c2, rfl, h1, h2⟩
    have hl := a.len h1
    rw [ha] at hl
    match c1, hl with
    | [v], _ => exact ⟨v, c2, rfl, h1, h2⟩
  · rintro ⟨v, c2, rfl, h1, h2⟩
    exact ⟨[v], c2, rfl, h1, h2⟩
theorem int_iff {H : FH} {cs : List Value} {x : Int} : RP.int.rel H cs x ↔ cs = [.int .i64 x] := Iff.rfl
def rTerm : RP Term := RP.map (fun t => (t.coef, t.lit)) (RP.pair RP.int RP.int)
section
variable {tT ti tis tr tC tB tS : Nat} {H : FH} {cs : List Value}
theorem rTerm_iff {t : Term} : rTerm.rel H cs t ↔ cs = [.int .i64 t.coef, .int .i64 t.lit] := by
  show (RP.pair RP.int RP.int).rel H cs (t.coef, t.lit) ↔ _
  rw [pair1 rfl]
  constructor
  · rintro ⟨v, c2, rfl, h1, h2⟩; rw [int_iff] at h1 h2; simp at h1; simp [h1, h2]
  · rintro rfl; exact ⟨_, _, rfl, rfl, rfl⟩
end
theorem term_eqIn {P : Program} {t : TypeId} {fs : Array Field} {f1 f2 : Field} (hu : P.underlying t = some (.struct fs)) (hfs : fs.toList = [f1, f2]) (hn1 : f1.name ≠ "_") (hn2 : f2.name ≠ "_") (ho1 : f1.offset = 0) (ho2 : f2.offset = 1)
    (h1 : P.underlying f1.type = some (.int .i64)) (h2 : P.underlying f2.type = some (.int .i64)) (hp : P.stoodInHeld t = false) (d : Nat) (x1 x2 y1 y2 : Int) (w : World) :
    (Op.equalIn (d + 2) t (.agg #[.int .i64 x1, .int .i64 x2]) (.agg #[.int .i64 y1, .int .i64 y2])).run P w = .ok (x1 == y1 && x2 == y2) w := by
  have hf : P.fieldsOf t = fs := by simp [Program.fieldsOf, hu]
  rw [run_equalIn_agg w (d + 1) t _ _ (by rw [hu, hf]) hp, hf, hfs]
  have ha1 : (isAgg f1.type).run P w = .ok false w := by simp [isAgg, run_underlying h1]
  have ha2 : (isAgg f2.type).run P w = .ok false w := by simp [isAgg, run_underlying h2]
  have p1 : ∀ a b : Value, (part f1.type #[a, b] f1.offset).run P w = .ok a w := by intro a b; simp [part, ha1, ho1]
  have p2 : ∀ a b : Value, (part f2.type #[a, b] f2.offset).run P w = .ok b w := by intro a b; simp [part, ha2, ho2]
  simp only [Op.eqFields, hn1, hn2, if_true, Sem.run_bind, p1, Result.andThen_ok, run_equalIn_int _ _ _ _ _ _ _ h1, ne_eq, not_false_eq_true]
  by_cases e1 : x1 = y1 <;> by_cases e2 : x2 = y2 <;> simp [e1, e2, p2, run_equalIn_int _ _ _ _ _ _ _ h2]
structure TermEq (P : Program) (t : TypeId) : Prop where
  guard : P.eqGuardType P.depth t = false
  eq : ∀ (x1 x2 y1 y2 : Int) (w : World), (Op.equal t (.agg #[.int .i64 x1, .int .i64 x2]) (.agg #[.int .i64 y1, .int .i64 y2])).run P w = .ok (x1 == y1 && x2 == y2) w
theorem termEq_of {P : Program} {t : TypeId} {fs : Array Field} {f1 f2 : Field} (hg : P.eqGuardType P.depth t = false) (hu : P.underlying t = some (.struct fs)) (hfs : fs.toList = [f1, f2]) (hn1 : f1.name ≠ "_") (hn2 : f2.name ≠ "_") (ho1 : f1.offset = 0) (ho2 : f2.offset = 1)
    (h1 : P.underlying f1.type = some (.int .i64)) (h2 : P.underlying f2.type = some (.int .i64)) (hp : P.stoodInHeld t = false) : TermEq P t :=
  ⟨hg, fun x1 x2 y1 y2 w => term_eqIn hu hfs hn1 hn2 ho1 ho2 h1 h2 hp 9998 x1 x2 y1 y2 w⟩
theorem term_beq (x1 x2 y1 y2 : Int) : (x1 == y1 && x2 == y2) = ((⟨x1, x2⟩ : Term) == ⟨y1, y2⟩) := by
  rw [Bool.eq_iff_iff]
  simp
section rules
variable {P : Program} {N : Nat} {Q : Post} {f : Fr} {w : World} {ops : Array Oper} {rest : List Oper} {d : Nat} {ty : TypeId} {pos : String} {af : Array Edge} {gd : Option (Nat × Bool)}
variable {x y : Operand} {t u : TypeId} {b c : Bool} {x1 x2 y1 y2 : Int}
theorem L_beql (hk : ok1 ops f N d gd = true) (hu : P.underlying t = some .bool) (hx : ev f x = .bool b) (hy : ev f y = .bool c) (h : L P N ops rest Q (upd f d (.bool (b == c))) w) :
    L P N ops (⟨some d, .binOp .eql t x y u, ty, pos, af, gd⟩ :: rest) Q f w :=
  L_pure hk (by simp [execOp, hx, hy, eqGuard, binOp, run_equal_bool, hu]) h
theorem L_bneq (hk : ok1 ops f N d gd = true) (hu : P.underlying t = some .bool) (hx : ev f x = .bool b) (hy : ev f y = .bool c) (h : L P N ops rest Q (upd f d (.bool (b != c))) w) :
    L P N ops (⟨some d, .binOp .neq t x y u, ty, pos, af, gd⟩ :: rest) Q f w :=
  L_pure hk (by simp [execOp, hx, hy, eqGuard, binOp, run_equal_bool, hu, bne]) h
theorem L_tneq (hk : ok1 ops f N d gd = true) (hu : TermEq P t) (hx : ev f x = .agg #[.int .i64 x1, .int .i64 x2]) (hy : ev f y = .agg #[.int .i64 y1, .int .i64 y2])
    (h : L P N ops rest Q (upd f d (.bool (!((⟨x1, x2⟩ : Term) == ⟨y1, y2⟩)))) w) :
    L P N ops (⟨some d, .binOp .neq t x y u, ty, pos, af, gd⟩ :: rest) Q f w :=
  L_pure hk (by rw [← term_beq]; simp [execOp, hx, hy, eqGuard, binOp, hu.eq, hu.guard]) h
end rules
theorem flat_term : rTerm.flat := RP.flat_map (RP.flat_pair RP.flat_int RP.flat_int)
theorem closed_int : (OR.frz RP.int).closed := OR.closed_frz RP.flat_int
theorem closed_term : (OR.frz rTerm).closed := OR.closed_frz flat_term
section
variable {H : FH} {w : World} {As : List Ass} {α β : Type}
theorem Star.pair {a : OR α} {b : OR β} {c1 c2 : List Value} {p : α × β} (h : Star H w (own a c1 p.1 :: own b c2 p.2 :: As)) : Star H w (own (OR.pair a b) (c1 ++ c2) p :: As) := by
  obtain ⟨hs, F, ⟨G1, F2, rfl, h1, G2, F3, rfl, h2, h3⟩, hn, hm⟩ := h
  exact ⟨hs, G1 ++ (G2 ++ F3), ⟨G1 ++ G2, F3, by simp, ⟨G1, G2, c1, c2, rfl, rfl, h1, h2⟩, h3⟩, hn, hm⟩
section
variable {P : Program} {N : Nat} {Q : Post} {f : Fr} {ops : Array Oper} {rest : List Oper} {ty : TypeId} {pos : String} {af : Array Edge} {gd : Option (Nat × Bool)} {x y : Operand}
end
theorem fldF_rTerm_0 {n : Int} {z : Term} : ∀ (H : FH) (w : World) (G : List Nat) (cs : List Value), (OR.frz rTerm).rel H w G cs z → 0 < cs.length ∧ (OR.frz rTerm).rel H w G (cs.set 0 (.int .i64 n)) { z with coef := n } := by
  rintro H w G cs ⟨rfl, h⟩
  rw [rTerm_iff] at h; subst h
  exact ⟨by simp, rfl, rTerm_iff.2 rfl⟩
theorem fz_own {R : OR α} {cs : List Value} {x : α} {Bs : List Ass} {Hb : FH} (i : Nat) (h : ∀ A ∈ As, A.fz Hb) (hp : pick i As = some (own R cs x, Bs)) : R.r.rel Hb cs x := fz_get i h hp
theorem Star.keepN (n : Nat) (h : Star H w As) : Star H w (As.take n) := by
  have : Star H w (As.take n ++ As.drop n) := by rw [List.take_append_drop]; exact h
  exact this.take
end
def arrC (xs : List Int) : Array Value := (xs.map (Value.int .i64)).toArray
theorem arrC_get {xs : List Int} {k : Int} {z : Int} (h : idx xs k = some z) : (arrC xs)[k.toNat]? = some (.int .i64 z) := by
  obtain ⟨_, hz, _⟩ := idx_some h
  unfold arrC
  simp [hz]
def arr (g : Nat) (t : TypeId) (n : Nat) (xs : List Int) : Ass where
  p H w F := F = [g] ∧ Blk w g t (arrC xs) ∧ xs.length = n
  fz H := True
  mono h _ := h
  loc h k := ⟨h.1, (k g (by rw [h.1]; simp)).trans h.2.1, h.2.2⟩
  lt h b hb := by rw [h.1] at hb; simp at hb; subst hb; exact h.2.1.lt
  fzl _ _ _ := trivial
section
variable {P : Program} {N : Nat} {Q : Post} {f : Fr} {w : World} {ops : Array Oper} {rest : List Oper} {d : Nat} {ty : TypeId} {pos : String} {af : Array Edge} {gd : Option (Nat × Bool)}
variable {x y : Operand} {t e u : TypeId} {H : FH} {As Bs : List Ass} {g n : Nat} {xs : List Int} {k z : Int}
theorem Star.toArr {cs : Array Value} (xs : List Int) (n : Nat) (hc : cs = arrC xs) (hn : xs.length = n) (h : Star H w (box g t cs :: As)) : Star H w (arr g t n xs :: As) := by
  obtain ⟨hs, F, ⟨F1, F2, rfl, ⟨hF, hb⟩, h2⟩, hnd, hm⟩ := h
  exact ⟨hs, F1 ++ F2, ⟨F1, F2, rfl, ⟨hF, hc ▸ hb, hn⟩, h2⟩, hnd, hm⟩
theorem Star.arrAt (i : Nat) (h : Star H w As) (hp : pick i As = some (arr g t n xs, Bs)) : Blk w g t (arrC xs) ∧ xs.length = n := by
  obtain ⟨F, hF⟩ := (h.get i hp).one
  exact hF.2
theorem L_ixA (i : Nat) (hk : ok1 ops f N d gd = true) (hu : P.underlying u = some (.array n e)) (hsz : ∀ w, (sizeOf e).run P w = .ok 1 w) (hx : ev f x = .pointer (some ⟨g, 0, none⟩)) (hy : ev f y = .int .i64 k)
    (hst : Star H w As) (hp : pick i As = some (arr g t n xs, Bs)) (hi : idx xs k = some z) (h : L P N ops rest Q (upd f d (.pointer (some ⟨g, k.toNat * 1, none⟩))) w) :
    L P N ops (⟨some d, .indexAddr u x y, ty, pos, af, gd⟩ :: rest) Q f w := by
  obtain ⟨h0, hz, hlt⟩ := idx_some hi
  obtain ⟨_, hl⟩ := hst.arrAt i hp
  have hlt' : k < (n : Int) := by omega
  exact L_pure hk (by simp [execOp, hx, hy, Instr.indexAt, Instr.sureAddr, asIntOf, run_underlying hu, h0, hlt', hsz, add_lit]) h
theorem L_ldA (i : Nat) (hk : ok1 ops f N d gd = true) (hag : ∀ w, (isAgg e).run P w = .ok false w) (hx : ev f x = .pointer (some ⟨g, k.toNat * 1, none⟩))
    (hst : Star H w As) (hp : pick i As = some (arr g t n xs, Bs)) (hi : idx xs k = some z) (h : L P N ops rest Q (upd f d (.int .i64 z)) w) : L P N ops (⟨some d, .load e x, ty, pos, af, gd⟩ :: rest) Q f w := by
  obtain ⟨hb, _⟩ := hst.arrAt i hp
  refine L_ld hk hag hx (hb.cell ?_) h
  rw [Nat.mul_one]; exact arrC_get hi
theorem L_stA (hk : ok0 ops f gd = true) (hsz : ∀ w, (sizeOf e).run P w = .ok 1 w) (hx : ev f x = .pointer (some ⟨g, k.toNat * 1, none⟩)) {v : Int} (hy : ev f y = .int .i64 v)
    (hst : Star H w (arr g t n xs :: As)) (hi : idx xs k = some z) (h : ∀ w', Star H w' (arr g t n (xs.set k.toNat v) :: As) → L P N ops rest Q f w') : L P N ops (⟨none, .store e x y, ty, pos, af, gd⟩ :: rest) Q f w := by
  obtain ⟨hb, hl⟩ := hst.arrAt 0 rfl
  have hc := arrC_get hi
  obtain ⟨_, _, hlt⟩ := idx_some hi
  have hx' : ev f x = .pointer (some ⟨g, k.toNat, none⟩) := by rw [hx, Nat.mul_one]
  have h1 : (Value.int .i64 v).oneCell' = true := rfl
  refine L_none (w' := w.setCell ⟨g, k.toNat, none⟩ (.int .i64 v)) hk (by simp [execOp, hx', hy, Instr.storeAt, Instr.sureAddr, run_storeVar1 hsz hb hc h1]) (h _ ?_)
  refine Star.put hst putB_setCell fun F hF _ _ => ⟨by rw [hF.1]; simp, F, ⟨hF.1, ?_, by rw [List.length_set]; exact hF.2.2⟩, .refl _⟩
  have h2 := blk_setCell (o := k.toNat) (v := .int .i64 v) hF.2.1
  have e1 : arrC (xs.set k.toNat v) = (arrC xs).setIfInBounds k.toNat (.int .i64 v) := by
    unfold arrC
    rw [List.map_set]
    simp
  rw [e1]; exact h2
theorem L_ldAA (i : Nat) (hk : ok1 ops f N d gd = true) (hag : ∀ w, (isAgg u).run P w = .ok true w) (hsz : ∀ w, (sizeOf u).run P w = .ok n w) (hx : ev f x = .pointer (some ⟨g, 0, none⟩))
    (hst : Star H w As) (hp : pick i As = some (arr g t n xs, Bs)) (h : L P N ops rest Q (upd f d (.agg (arrC xs))) w) : L P N ops (⟨some d, .load u x, ty, pos, af, gd⟩ :: rest) Q f w := by
  obtain ⟨hb, hl⟩ := hst.arrAt i hp
  refine L_lda (cs := xs.map (Value.int .i64)) hk hag hsz hx ?_ (by simpa using hl) h
  exact ⟨arrC xs, t, (0, 0), hb, fun j v hj => by rw [Nat.zero_add]; unfold arrC; simpa using hj⟩
theorem L_ixV (hk : ok1 ops f N d gd = true) (hu : P.underlying u = some (.array n e)) (hsz : ∀ w, (sizeOf e).run P w = .ok 1 w) (hag : ∀ w, (isAgg e).run P w = .ok false w) (hx : ev f x = .agg (arrC xs)) (hy : ev f y = .int .i64 k) (hl : xs.length = n) (hi : idx xs k = some z)
    (h : L P N ops rest Q (upd f d (.int .i64 z)) w) : L P N ops (⟨some d, .index u x y, ty, pos, af, gd⟩ :: rest) Q f w := by
  obtain ⟨h0, hz, hlt⟩ := idx_some hi
  have hlt' : k < (n : Int) := by omega
  have hc := arrC_get hi
  exact L_pure hk (by simp [execOp, hx, hy, Instr.index, asIntOf, run_underlying hu, h0, hlt', hsz, part, hag, hc]) h
end
section
variable {δ ι : Type} {H : FH} {w : World} {As : List Ass} {f : δ → Nat → ι → List Ass}
end
end Go.E
