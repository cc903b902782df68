/- The program's data as Lean structures, and how each lies in cells. -/
import Derived.Test.YtcjjfneofcpmfaaE9
namespace Go.E
open Go Go.RowKit
set_option linter.unusedVariables false

structure Term where
  coef : Int
  lit : Int
  deriving DecidableEq
structure Con where
  terms : List Term
  bound : Int
  deriving DecidableEq
structure Rule where
  kind : Int
  vars : List Int
  coefs : List Int
  bound : Int
  rows : List (List Int)
  deriving DecidableEq
structure Model where
  sizes : List Int
  rules : List Rule
  deriving DecidableEq
structure Step where
  kind : Int
  a : Int
  b : Int
  given : Con
  deriving DecidableEq
structure Db where
  list : List Con
  gone : List Bool
structure Sst where
  list : List Con
  steps : List Step
  fuel : Int
structure Srch where
  list : List Con
  fuel : Int
  steps : List Step
  much : Bool
structure Rd where
  b : List UInt8
  p : Int

theorem pair1 {α β : Type} {a : RP α} {b : RP β} (ha : a.n = 1) {lo hi : Nat} {w : World} {cs : List Value} {p : α × β} :
    (RP.pair a b).rel lo hi w cs p ↔ ∃ v c2, cs = v :: c2 ∧ a.rel lo hi w [v] p.1 ∧ b.rel lo hi w c2 p.2 := by
  constructor
  · rintro ⟨c1, c2, rfl, h1, h2⟩
    have hl := a.len h1
    rw [ha] at hl
    match c1, hl with
    | [v], _ => exact ⟨v, c2, rfl, h1, h2⟩
  · rintro ⟨v, c2, rfl, h1, h2⟩
    exact ⟨[v], c2, rfl, h1, h2⟩
theorem int_iff {lo hi : Nat} {w : World} {cs : List Value} {x : Int} : RP.int.rel lo hi w cs x ↔ cs = [.int .i64 x] := Iff.rfl
theorem bool_iff {lo hi : Nat} {w : World} {cs : List Value} {x : Bool} : RP.bool.rel lo hi w cs x ↔ cs = [.bool x] := Iff.rfl
theorem u8_iff {lo hi : Nat} {w : World} {cs : List Value} {x : UInt8} : RP.u8.rel lo hi w cs x ↔ cs = [.int .u8 (x.toNat : Int)] := Iff.rfl
theorem str_iff {lo hi : Nat} {w : World} {cs : List Value} {x : ByteArray} : RP.str.rel lo hi w cs x ↔ cs = [.string x] := Iff.rfl
theorem slice1 {α : Type} {r : RP α} {t : TypeId} {lo hi : Nat} {w : World} {cs : List Value} {xs : List α} (h : (RP.slice t r).rel lo hi w cs xs) : ∃ v, cs = [v] ∧ (RP.slice t r).rel lo hi w [v] xs := by
  have hl := (RP.slice t r).len h
  match cs, hl with
  | [v], _ => exact ⟨v, rfl, h⟩

def rTerm : RP Term := RP.map (fun t => (t.coef, t.lit)) (RP.pair RP.int RP.int)
def rCon (tT : Nat) : RP Con := RP.map (fun c => (c.terms, c.bound)) (RP.pair (RP.slice tT rTerm) RP.int)
def rRule (ti tis : Nat) : RP Rule := RP.map (fun r => (r.kind, r.vars, r.coefs, r.bound, r.rows))
  (RP.pair RP.int (RP.pair (RP.slice ti RP.int) (RP.pair (RP.slice ti RP.int) (RP.pair RP.int (RP.slice tis (RP.slice ti RP.int))))))
def rModel (ti tis tr : Nat) : RP Model := RP.map (fun m => (m.sizes, m.rules)) (RP.pair (RP.slice ti RP.int) (RP.slice tr (rRule ti tis)))
def rStep (tT : Nat) : RP Step := RP.map (fun s => (s.kind, s.a, s.b, s.given)) (RP.pair RP.int (RP.pair RP.int (RP.pair RP.int (rCon tT))))
def rDb (tC tT tB : Nat) : RP Db := RP.map (fun d => (d.list, d.gone)) (RP.pair (RP.slice tC (rCon tT)) (RP.slice tB RP.bool))
def rSst (tC tT tS : Nat) : RP Sst := RP.map (fun d => (d.list, d.steps, d.fuel)) (RP.pair (RP.slice tC (rCon tT)) (RP.pair (RP.slice tS (rStep tT)) RP.int))

section
variable {tT ti tis tr tC tB tS lo hi : Nat} {w : World} {cs : List Value}
theorem rTerm_iff {t : Term} : rTerm.rel lo hi w cs t ↔ cs = [.int .i64 t.coef, .int .i64 t.lit] := by
  show (RP.pair RP.int RP.int).rel lo hi w cs (t.coef, t.lit) ↔ _
  rw [pair1 rfl]
  constructor
  · rintro ⟨v, c2, rfl, h1, h2⟩; rw [int_iff] at h1 h2; simp at h1; simp [h1, h2]
  · rintro rfl; exact ⟨_, _, rfl, rfl, rfl⟩
theorem rCon_iff {c : Con} : (rCon tT).rel lo hi w cs c ↔ ∃ v, cs = [v, .int .i64 c.bound] ∧ (RP.slice tT rTerm).rel lo hi w [v] c.terms := by
  show (RP.pair (RP.slice tT rTerm) RP.int).rel lo hi w cs (c.terms, c.bound) ↔ _
  rw [pair1 rfl]
  constructor
  · rintro ⟨v, c2, rfl, h1, h2⟩; rw [int_iff] at h2; exact ⟨v, by simp [h2], h1⟩
  · rintro ⟨v, rfl, h1⟩; exact ⟨v, _, rfl, h1, rfl⟩
theorem rRule_iff {r : Rule} : (rRule ti tis).rel lo hi w cs r ↔ ∃ v1 v2 v3, cs = [.int .i64 r.kind, v1, v2, .int .i64 r.bound, v3] ∧ (RP.slice ti RP.int).rel lo hi w [v1] r.vars ∧
    (RP.slice ti RP.int).rel lo hi w [v2] r.coefs ∧ (RP.slice tis (RP.slice ti RP.int)).rel lo hi w [v3] r.rows := by
  show (RP.pair RP.int (RP.pair (RP.slice ti RP.int) (RP.pair (RP.slice ti RP.int) (RP.pair RP.int (RP.slice tis (RP.slice ti RP.int)))))).rel lo hi w cs (r.kind, r.vars, r.coefs, r.bound, r.rows) ↔ _
  simp only [pair1 (a := RP.int) rfl, pair1 (a := RP.slice ti RP.int) rfl]
  constructor
  · rintro ⟨v, c2, rfl, h1, v1, c3, rfl, h2, v2, c4, rfl, h3, v3, c5, rfl, h4, h5⟩
    rw [int_iff] at h1 h4
    simp at h1 h4
    obtain ⟨u, rfl, h6⟩ := slice1 h5
    exact ⟨v1, v2, u, by simp [h1, h4], h2, h3, h6⟩
  · rintro ⟨v1, v2, v3, rfl, h1, h2, h3⟩
    exact ⟨_, _, rfl, rfl, _, _, rfl, h1, _, _, rfl, h2, _, _, rfl, rfl, h3⟩
theorem rModel_iff {m : Model} : (rModel ti tis tr).rel lo hi w cs m ↔ ∃ v1 v2, cs = [v1, v2] ∧ (RP.slice ti RP.int).rel lo hi w [v1] m.sizes ∧ (RP.slice tr (rRule ti tis)).rel lo hi w [v2] m.rules := by
  show (RP.pair (RP.slice ti RP.int) (RP.slice tr (rRule ti tis))).rel lo hi w cs (m.sizes, m.rules) ↔ _
  rw [pair1 rfl]
  constructor
  · rintro ⟨v, c2, rfl, h1, h2⟩
    obtain ⟨u, rfl, h3⟩ := slice1 h2
    exact ⟨v, u, rfl, h1, h3⟩
  · rintro ⟨v1, v2, rfl, h1, h2⟩; exact ⟨_, _, rfl, h1, h2⟩
theorem rStep_iff {s : Step} : (rStep tT).rel lo hi w cs s ↔ ∃ v, cs = [.int .i64 s.kind, .int .i64 s.a, .int .i64 s.b, v, .int .i64 s.given.bound] ∧ (RP.slice tT rTerm).rel lo hi w [v] s.given.terms := by
  show (RP.pair RP.int (RP.pair RP.int (RP.pair RP.int (rCon tT)))).rel lo hi w cs (s.kind, s.a, s.b, s.given) ↔ _
  simp only [pair1 (a := RP.int) rfl, rCon_iff]
  constructor
  · rintro ⟨v, c2, rfl, h1, v1, c3, rfl, h2, v2, c4, rfl, h3, u, rfl, h4⟩
    rw [int_iff] at h1 h2 h3
    simp at h1 h2 h3
    exact ⟨u, by simp [h1, h2, h3], h4⟩
  · rintro ⟨v, rfl, h⟩; exact ⟨_, _, rfl, rfl, _, _, rfl, rfl, _, _, rfl, rfl, v, rfl, h⟩
theorem rDb_iff {d : Db} : (rDb tC tT tB).rel lo hi w cs d ↔ ∃ v1 v2, cs = [v1, v2] ∧ (RP.slice tC (rCon tT)).rel lo hi w [v1] d.list ∧ (RP.slice tB RP.bool).rel lo hi w [v2] d.gone := by
  show (RP.pair (RP.slice tC (rCon tT)) (RP.slice tB RP.bool)).rel lo hi w cs (d.list, d.gone) ↔ _
  rw [pair1 rfl]
  constructor
  · rintro ⟨v, c2, rfl, h1, h2⟩
    obtain ⟨u, rfl, h3⟩ := slice1 h2
    exact ⟨v, u, rfl, h1, h3⟩
  · rintro ⟨v1, v2, rfl, h1, h2⟩; exact ⟨_, _, rfl, h1, h2⟩
theorem rSst_iff {d : Sst} : (rSst tC tT tS).rel lo hi w cs d ↔ ∃ v1 v2, cs = [v1, v2, .int .i64 d.fuel] ∧ (RP.slice tC (rCon tT)).rel lo hi w [v1] d.list ∧ (RP.slice tS (rStep tT)).rel lo hi w [v2] d.steps := by
  show (RP.pair (RP.slice tC (rCon tT)) (RP.pair (RP.slice tS (rStep tT)) RP.int)).rel lo hi w cs (d.list, d.steps, d.fuel) ↔ _
  simp only [pair1 (a := RP.slice tC (rCon tT)) rfl, pair1 (a := RP.slice tS (rStep tT)) rfl]
  constructor
  · rintro ⟨v, c2, rfl, h1, v1, c3, rfl, h2, h3⟩
    rw [int_iff] at h3
    exact ⟨v, v1, by simp [h3], h1, h2⟩
  · rintro ⟨v1, v2, rfl, h1, h2⟩; exact ⟨_, _, rfl, h1, _, _, rfl, h2, rfl⟩
end
theorem term_eqIn {P : Program} {t : TypeId} {fs : Array Field} {f1 f2 : Field} (hu : P.underlying t = some (.struct fs)) (hfs : fs.toList = [f1, f2]) (hn1 : f1.name ≠ "_") (hn2 : f2.name ≠ "_") (ho1 : f1.offset = 0) (ho2 : f2.offset = 1)
    (h1 : P.underlying f1.type = some (.int .i64)) (h2 : P.underlying f2.type = some (.int .i64)) (hp : P.stoodInHeld t = false) (d : Nat) (x1 x2 y1 y2 : Int) (w : World) :
    (Op.equalIn (d + 2) t (.agg #[.int .i64 x1, .int .i64 x2]) (.agg #[.int .i64 y1, .int .i64 y2])).run P w = .ok (x1 == y1 && x2 == y2) w := by
  have hf : P.fieldsOf t = fs := by simp [Program.fieldsOf, hu]
  rw [run_equalIn_agg w (d + 1) t _ _ (by rw [hu, hf]) hp, hf, hfs]
  have ha1 : (isAgg f1.type).run P w = .ok false w := by simp [isAgg, run_underlying h1]
  have ha2 : (isAgg f2.type).run P w = .ok false w := by simp [isAgg, run_underlying h2]
  have p1 : ∀ a b : Value, (part f1.type #[a, b] f1.offset).run P w = .ok a w := by intro a b; simp [part, ha1, ho1]
  have p2 : ∀ a b : Value, (part f2.type #[a, b] f2.offset).run P w = .ok b w := by intro a b; simp [part, ha2, ho2]
  simp only [Op.eqFields, hn1, hn2, if_true, Sem.run_bind, p1, Result.andThen_ok, run_equalIn_int _ _ _ _ _ _ _ h1, ne_eq, not_false_eq_true]
  by_cases e1 : x1 = y1 <;> by_cases e2 : x2 = y2 <;> simp [e1, e2, p2, run_equalIn_int _ _ _ _ _ _ _ h2]

/-- two values of this struct type of two ints are compared -/
structure TermEq (P : Program) (t : TypeId) : Prop where
  guard : P.eqGuardType P.depth t = false
  eq : ∀ (x1 x2 y1 y2 : Int) (w : World), (Op.equal t (.agg #[.int .i64 x1, .int .i64 x2]) (.agg #[.int .i64 y1, .int .i64 y2])).run P w = .ok (x1 == y1 && x2 == y2) w
theorem termEq_of {P : Program} {t : TypeId} {fs : Array Field} {f1 f2 : Field} (hg : P.eqGuardType P.depth t = false) (hu : P.underlying t = some (.struct fs)) (hfs : fs.toList = [f1, f2]) (hn1 : f1.name ≠ "_") (hn2 : f2.name ≠ "_") (ho1 : f1.offset = 0) (ho2 : f2.offset = 1)
    (h1 : P.underlying f1.type = some (.int .i64)) (h2 : P.underlying f2.type = some (.int .i64)) (hp : P.stoodInHeld t = false) : TermEq P t :=
  ⟨hg, fun x1 x2 y1 y2 w => term_eqIn hu hfs hn1 hn2 ho1 ho2 h1 h2 hp 9998 x1 x2 y1 y2 w⟩
theorem term_beq (x1 x2 y1 y2 : Int) : (x1 == y1 && x2 == y2) = ((⟨x1, x2⟩ : Term) == ⟨y1, y2⟩) := by
  rw [Bool.eq_iff_iff]
  simp
section rules
variable {P : Program} {N : Nat} {Q : Post} {f : Fr} {w : World} {ops : Array Oper} {rest : List Oper} {d : Nat} {ty : TypeId} {pos : String} {af : Array Edge} {gd : Option (Nat × Bool)}
variable {x y : Operand} {t u : TypeId} {b c : Bool} {x1 x2 y1 y2 : Int}
theorem L_beql (hk : ok1 ops f N d gd = true) (hu : P.underlying t = some .bool) (hx : ev f x = .bool b) (hy : ev f y = .bool c) (h : L P N ops rest Q (upd f d (.bool (b == c))) w) :
    L P N ops (⟨some d, .binOp .eql t x y u, ty, pos, af, gd⟩ :: rest) Q f w :=
  L_pure hk (by simp [execOp, hx, hy, eqGuard, binOp, run_equal_bool, hu]) h
theorem L_bneq (hk : ok1 ops f N d gd = true) (hu : P.underlying t = some .bool) (hx : ev f x = .bool b) (hy : ev f y = .bool c) (h : L P N ops rest Q (upd f d (.bool (b != c))) w) :
    L P N ops (⟨some d, .binOp .neq t x y u, ty, pos, af, gd⟩ :: rest) Q f w :=
  L_pure hk (by simp [execOp, hx, hy, eqGuard, binOp, run_equal_bool, hu, bne]) h
theorem L_teql (hk : ok1 ops f N d gd = true) (hu : TermEq P t) (hx : ev f x = .agg #[.int .i64 x1, .int .i64 x2]) (hy : ev f y = .agg #[.int .i64 y1, .int .i64 y2])
    (h : L P N ops rest Q (upd f d (.bool ((⟨x1, x2⟩ : Term) == ⟨y1, y2⟩))) w) :
    L P N ops (⟨some d, .binOp .eql t x y u, ty, pos, af, gd⟩ :: rest) Q f w :=
  L_pure hk (by rw [← term_beq]; simp [execOp, hx, hy, eqGuard, binOp, hu.eq, hu.guard]) h
theorem L_tneq (hk : ok1 ops f N d gd = true) (hu : TermEq P t) (hx : ev f x = .agg #[.int .i64 x1, .int .i64 x2]) (hy : ev f y = .agg #[.int .i64 y1, .int .i64 y2])
    (h : L P N ops rest Q (upd f d (.bool (!((⟨x1, x2⟩ : Term) == ⟨y1, y2⟩)))) w) :
    L P N ops (⟨some d, .binOp .neq t x y u, ty, pos, af, gd⟩ :: rest) Q f w :=
  L_pure hk (by rw [← term_beq]; simp [execOp, hx, hy, eqGuard, binOp, hu.eq, hu.guard]) h
end rules
end Go.E
