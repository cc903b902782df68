/- The program's data as Lean structures, and how each lies in cells; rows whose elements own rows. -/
import Derived.Test.YtohpkefnmkdaeaaDoorG7
namespace Go.E
open Go Go.RowKit
set_option linter.unusedVariables false
set_option linter.unusedSimpArgs false
structure Rule where
  kind : Int
  vars : List Int
  coefs : List Int
  bound : Int
  rows : List (List Int)
  deriving DecidableEq
structure Model where
  sizes : List Int
  rules : List Rule
  deriving DecidableEq
theorem pair1 {α β : Type} {a : RP α} {b : RP β} (ha : a.n = 1) {H : FH} {cs : List Value} {p : α × β} :
    (RP.pair a b).rel H cs p ↔ ∃ v c2, cs = v :: c2 ∧ a.rel H [v] p.1 ∧ b.rel H c2 p.2 := by
  constructor
  · rintro ⟨c1, c2, rfl, h1, h2⟩
    have hl := a.len h1
    rw [ha] at hl
    match c1, hl with
    | [v], _ => exact ⟨v, c2, rfl, h1, h2⟩
  · rintro ⟨v, c2, rfl, h1, h2⟩
    exact ⟨[v], c2, rfl, h1, h2⟩
theorem int_iff {H : FH} {cs : List Value} {x : Int} : RP.int.rel H cs x ↔ cs = [.int .i64 x] := Iff.rfl
def rRule (ti tis : Nat) : RP Rule := RP.map (fun r => (r.kind, r.vars, r.coefs, r.bound, r.rows))
  (RP.pair RP.int (RP.pair (RP.slice ti RP.int) (RP.pair (RP.slice ti RP.int) (RP.pair RP.int (RP.slice tis (RP.slice ti RP.int))))))
def rModel (ti tis tr : Nat) : RP Model := RP.map (fun m => (m.sizes, m.rules)) (RP.pair (RP.slice ti RP.int) (RP.slice tr (rRule ti tis)))
section
variable {tT ti tis tr tC tB tS : Nat} {H : FH} {cs : List Value}
theorem rRule_iff {r : Rule} : (rRule ti tis).rel H cs r ↔ ∃ v1 v2 v3, cs = [.int .i64 r.kind, v1, v2, .int .i64 r.bound, v3] ∧ (RP.slice ti RP.int).rel H [v1] r.vars ∧
    (RP.slice ti RP.int).rel H [v2] r.coefs ∧ (RP.slice tis (RP.slice ti RP.int)).rel H [v3] r.rows := by
  show (RP.pair RP.int (RP.pair (RP.slice ti RP.int) (RP.pair (RP.slice ti RP.int) (RP.pair RP.int (RP.slice tis (RP.slice ti RP.int)))))).rel H cs (r.kind, r.vars, r.coefs, r.bound, r.rows) ↔ _
  simp only [pair1 (a := RP.int) rfl, pair1 (a := RP.slice ti RP.int) rfl]
  constructor
  · rintro ⟨v, c2, rfl, h1, v1, c3, rfl, h2, v2, c4, rfl, h3, v3, c5, rfl, h4, h5⟩
    rw [int_iff] at h1 h4
    simp at h1 h4
    obtain ⟨u, rfl, h6⟩ := slice1 h5
    exact ⟨v1, v2, u, by simp [h1, h4], h2, h3, h6⟩
  · rintro ⟨v1, v2, v3, rfl, h1, h2, h3⟩
    exact ⟨_, _, rfl, rfl, _, _, rfl, h1, _, _, rfl, h2, _, _, rfl, rfl, h3⟩
theorem rModel_iff {m : Model} : (rModel ti tis tr).rel H cs m ↔ ∃ v1 v2, cs = [v1, v2] ∧ (RP.slice ti RP.int).rel H [v1] m.sizes ∧ (RP.slice tr (rRule ti tis)).rel H [v2] m.rules := by
  show (RP.pair (RP.slice ti RP.int) (RP.slice tr (rRule ti tis))).rel H cs (m.sizes, m.rules) ↔ _
  rw [pair1 rfl]
  constructor
  · rintro ⟨v, c2, rfl, h1, h2⟩
    obtain ⟨u, rfl, h3⟩ := slice1 h2
    exact ⟨v, u, rfl, h1, h3⟩
  · rintro ⟨v1, v2, rfl, h1, h2⟩; exact ⟨_, _, rfl, h1, h2⟩
end
section rules
variable {P : Program} {N : Nat} {Q : Post} {f : Fr} {w : World} {ops : Array Oper} {rest : List Oper} {d : Nat} {ty : TypeId} {pos : String} {af : Array Edge} {gd : Option (Nat × Bool)}
variable {x y : Operand} {t u : TypeId} {b c : Bool} {x1 x2 y1 y2 : Int}
end rules
def oRule (ti tis : Nat) : OR Rule := OR.map (fun r => (r.kind, r.vars, r.coefs, r.bound, r.rows))
  (OR.pair (OR.frz RP.int) (OR.pair (OR.ownS ti (OR.frz RP.int)) (OR.pair (OR.ownS ti (OR.frz RP.int)) (OR.pair (OR.frz RP.int) (OR.ownS tis (OR.ownS ti (OR.frz RP.int)))))))
theorem closed_int : (OR.frz RP.int).closed := OR.closed_frz RP.flat_int
theorem closed_str : (OR.frz RP.str).closed := OR.closed_frz RP.flat_str
theorem closed_oRule {ti tis : Nat} : (oRule ti tis).closed := OR.closed_map (OR.closed_pair closed_int (OR.closed_pair (OR.closed_ownS closed_int) (OR.closed_pair (OR.closed_ownS closed_int) (OR.closed_pair closed_int (OR.closed_ownS (OR.closed_ownS closed_int))))))
section
variable {H : FH} {w : World} {As : List Ass} {α β : Type}
theorem Star.pair {a : OR α} {b : OR β} {c1 c2 : List Value} {p : α × β} (h : Star H w (own a c1 p.1 :: own b c2 p.2 :: As)) : Star H w (own (OR.pair a b) (c1 ++ c2) p :: As) := by
  obtain ⟨hs, F, ⟨G1, F2, rfl, h1, G2, F3, rfl, h2, h3⟩, hn, hm⟩ := h
  exact ⟨hs, G1 ++ (G2 ++ F3), ⟨G1 ++ G2, F3, by simp, ⟨G1, G2, c1, c2, rfl, rfl, h1, h2⟩, h3⟩, hn, hm⟩
theorem oRule_close {ti tis : Nat} {v1 v2 v3 : Value} {r : Rule}
    (h : Star H w (own (OR.ownS ti (OR.frz RP.int)) [v1] r.vars :: own (OR.ownS ti (OR.frz RP.int)) [v2] r.coefs :: own (OR.ownS tis (OR.ownS ti (OR.frz RP.int))) [v3] r.rows :: As)) :
    Star H w (own (oRule ti tis) [.int .i64 r.kind, v1, v2, .int .i64 r.bound, v3] r :: As) := by
  have h1 := (h.get 2 rfl).addF (r := RP.int) (cs := [.int .i64 r.bound]) (x := r.bound) rfl
  have h2 := Star.pair (c1 := [.int .i64 r.bound]) (c2 := [v3]) (p := (r.bound, r.rows)) h1
  have h3 := Star.pair (c1 := [v2]) (c2 := [.int .i64 r.bound] ++ [v3]) (p := (r.coefs, r.bound, r.rows)) (h2.get 2 rfl)
  have h4 := Star.pair (c1 := [v1]) (c2 := [v2] ++ ([.int .i64 r.bound] ++ [v3])) (p := (r.vars, r.coefs, r.bound, r.rows)) (h3.get 1 rfl)
  have h5 := h4.addF (r := RP.int) (cs := [.int .i64 r.kind]) (x := r.kind) rfl
  exact Star.pair (c1 := [.int .i64 r.kind]) (p := (r.kind, r.vars, r.coefs, r.bound, r.rows)) h5
theorem oRule_zero {ti tis : Nat} {H : FH} {w : World} : (oRule ti tis).rel H w [] [.int .i64 0, .slice none 0 0, .slice none 0 0, .int .i64 0, .slice none 0 0] ⟨0, [], [], 0, []⟩ :=
  ⟨[], [], [_], [_, _, _, _], rfl, rfl, ⟨rfl, rfl⟩, [], [], [_], [_, _, _], rfl, rfl, .inl ⟨rfl, rfl, rfl⟩, [], [], [_], [_, _], rfl, rfl, .inl ⟨rfl, rfl, rfl⟩, [], [], [_], [_], rfl, rfl, ⟨rfl, rfl⟩, .inl ⟨rfl, rfl, rfl⟩⟩
section
variable {P : Program} {N : Nat} {Q : Post} {f : Fr} {ops : Array Oper} {rest : List Oper} {ty : TypeId} {pos : String} {af : Array Edge} {gd : Option (Nat × Bool)} {x y : Operand}
end
theorem fz_own {R : OR α} {cs : List Value} {x : α} {Bs : List Ass} {Hb : FH} (i : Nat) (h : ∀ A ∈ As, A.fz Hb) (hp : pick i As = some (own R cs x, Bs)) : R.r.rel Hb cs x := fz_get i h hp
theorem fz_box {g t : Nat} {cs : Array Value} {Bs : List Ass} {Hb : FH} (i : Nat) (h : ∀ A ∈ As, A.fz Hb) (hp : pick i As = some (box g t cs, Bs)) : Hb.m g = some (.cells cs t (0, 0)) := fz_get i h hp
theorem Star.keepN (n : Nat) (h : Star H w As) : Star H w (As.take n) := by
  have : Star H w (As.take n ++ As.drop n) := by rw [List.take_append_drop]; exact h
  exact this.take
def aggC (v : Value) (j : Nat) : Value := match v with | .agg cs => cs.getD j undef | _ => undef
end
section
variable {P : Program} {N : Nat} {Q : Post} {f : Fr} {w : World} {ops : Array Oper} {rest : List Oper} {d : Nat} {ty : TypeId} {pos : String} {af : Array Edge} {gd : Option (Nat × Bool)}
variable {x y : Operand} {t e u : TypeId} {H : FH} {As Bs : List Ass} {g n : Nat} {xs : List Int} {k z : Int}
end
section
variable {δ ι : Type} {H : FH} {w : World} {As : List Ass} {f : δ → Nat → ι → List Ass}
end
end Go.E
