/- The program's data as Lean structures, and how each lies in cells; rows whose elements own rows. -/
import Derived.Test.YtnjcihhfoocdcaaDoorG7
namespace Go.E
open Go Go.RowKit
set_option linter.unusedVariables false
set_option linter.unusedSimpArgs false
structure Term where
  coef : Int
  lit : Int
  deriving DecidableEq
structure Con where
  terms : List Term
  bound : Int
  deriving DecidableEq
theorem pair1 {α β : Type} {a : RP α} {b : RP β} (ha : a.n = 1) {H : FH} {cs : List Value} {p : α × β} :
    (RP.pair a b).rel H cs p ↔ ∃ v c2, cs = v :: c2 ∧ a.rel H [v] p.1 ∧ b.rel H c2 p.2 := by
  constructor
  · rintro ⟨c1, c2, rfl, h1, h2⟩
    have hl := a.len h1
    rw [ha] at hl
    match c1, hl with
    | [v], _ => exact ⟨v, c2, rfl, h1, h2⟩
  · rintro ⟨v, c2, rfl, h1, h2⟩
    exact ⟨[v], c2, rfl, h1, h2⟩
theorem int_iff {H : FH} {cs : List Value} {x : Int} : RP.int.rel H cs x ↔ cs = [.int .i64 x] := Iff.rfl
def rTerm : RP Term := RP.map (fun t => (t.coef, t.lit)) (RP.pair RP.int RP.int)
def rCon (tT : Nat) : RP Con := RP.map (fun c => (c.terms, c.bound)) (RP.pair (RP.slice tT rTerm) RP.int)
section
variable {tT ti tis tr tC tB tS : Nat} {H : FH} {cs : List Value}
theorem rTerm_iff {t : Term} : rTerm.rel H cs t ↔ cs = [.int .i64 t.coef, .int .i64 t.lit] := by
  show (RP.pair RP.int RP.int).rel H cs (t.coef, t.lit) ↔ _
  rw [pair1 rfl]
  constructor
  · rintro ⟨v, c2, rfl, h1, h2⟩; rw [int_iff] at h1 h2; simp at h1; simp [h1, h2]
  · rintro rfl; exact ⟨_, _, rfl, rfl, rfl⟩
theorem rCon_iff {c : Con} : (rCon tT).rel H cs c ↔ ∃ v, cs = [v, .int .i64 c.bound] ∧ (RP.slice tT rTerm).rel H [v] c.terms := by
  show (RP.pair (RP.slice tT rTerm) RP.int).rel H cs (c.terms, c.bound) ↔ _
  rw [pair1 rfl]
  constructor
  · rintro ⟨v, c2, rfl, h1, h2⟩; rw [int_iff] at h2; exact ⟨v, by simp [h2], h1⟩
  · rintro ⟨v, rfl, h1⟩; exact ⟨v, _, rfl, h1, rfl⟩
end
section rules
variable {P : Program} {N : Nat} {Q : Post} {f : Fr} {w : World} {ops : Array Oper} {rest : List Oper} {d : Nat} {ty : TypeId} {pos : String} {af : Array Edge} {gd : Option (Nat × Bool)}
variable {x y : Operand} {t u : TypeId} {b c : Bool} {x1 x2 y1 y2 : Int}
end rules
theorem flat_term : rTerm.flat := RP.flat_map (RP.flat_pair RP.flat_int RP.flat_int)
def oCon (tT : Nat) : OR Con := OR.map (fun c => (c.terms, c.bound)) (OR.pair (OR.ownS tT (OR.frz rTerm)) (OR.frz RP.int))
theorem closed_int : (OR.frz RP.int).closed := OR.closed_frz RP.flat_int
theorem closed_term : (OR.frz rTerm).closed := OR.closed_frz flat_term
theorem closed_oCon {tT : Nat} : (oCon tT).closed := OR.closed_map (OR.closed_pair (OR.closed_ownS closed_term) closed_int)
section
variable {H : FH} {w : World} {As : List Ass} {α β : Type}
theorem Star.pair {a : OR α} {b : OR β} {c1 c2 : List Value} {p : α × β} (h : Star H w (own a c1 p.1 :: own b c2 p.2 :: As)) : Star H w (own (OR.pair a b) (c1 ++ c2) p :: As) := by
  obtain ⟨hs, F, ⟨G1, F2, rfl, h1, G2, F3, rfl, h2, h3⟩, hn, hm⟩ := h
  exact ⟨hs, G1 ++ (G2 ++ F3), ⟨G1 ++ G2, F3, by simp, ⟨G1, G2, c1, c2, rfl, rfl, h1, h2⟩, h3⟩, hn, hm⟩
theorem oCon_close {tT : Nat} {v : Value} {c : Con} (h : Star H w (own (OR.ownS tT (OR.frz rTerm)) [v] c.terms :: As)) : Star H w (own (oCon tT) [v, .int .i64 c.bound] c :: As) := by
  have h2 : Star H w (own (OR.frz RP.int) [.int .i64 c.bound] c.bound :: own (OR.ownS tT (OR.frz rTerm)) [v] c.terms :: As) := h.addF rfl
  exact Star.pair (c1 := [v]) (c2 := [.int .i64 c.bound]) (p := (c.terms, c.bound)) (h2.get 1 rfl)
theorem oCon_zero {tT : Nat} {H : FH} {w : World} : (oCon tT).rel H w [] [.slice none 0 0, .int .i64 0] ⟨[], 0⟩ := ⟨[], [], _, _, rfl, rfl, .inl ⟨rfl, rfl, rfl⟩, rfl, rfl⟩
section
variable {P : Program} {N : Nat} {Q : Post} {f : Fr} {ops : Array Oper} {rest : List Oper} {ty : TypeId} {pos : String} {af : Array Edge} {gd : Option (Nat × Bool)} {x y : Operand}
end
theorem fz_own {R : OR α} {cs : List Value} {x : α} {Bs : List Ass} {Hb : FH} (i : Nat) (h : ∀ A ∈ As, A.fz Hb) (hp : pick i As = some (own R cs x, Bs)) : R.r.rel Hb cs x := fz_get i h hp
theorem Star.keepN (n : Nat) (h : Star H w As) : Star H w (As.take n) := by
  have : Star H w (As.take n ++ As.drop n) := by rw [List.take_append_drop]; exact h
  exact this.take
end
section
variable {P : Program} {N : Nat} {Q : Post} {f : Fr} {w : World} {ops : Array Oper} {rest : List Oper} {d : Nat} {ty : TypeId} {pos : String} {af : Array Edge} {gd : Option (Nat × Bool)}
variable {x y : Operand} {t e u : TypeId} {H : FH} {As Bs : List Ass} {g n : Nat} {xs : List Int} {k z : Int}
end
section
variable {δ ι : Type} {H : FH} {w : World} {As : List Ass} {f : δ → Nat → ι → List Ass}
end
end Go.E
