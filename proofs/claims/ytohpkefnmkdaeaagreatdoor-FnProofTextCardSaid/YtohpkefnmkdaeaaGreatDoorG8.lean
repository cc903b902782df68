/- The program's data as Lean structures, and how each lies in cells; rows whose elements own rows. -/
import Derived.Test.YtohpkefnmkdaeaaGreatDoorG7
namespace Go.E
open Go Go.RowKit
set_option linter.unusedVariables false
set_option linter.unusedSimpArgs false
structure Term where
  coef : Int
  lit : Int
  deriving DecidableEq
structure Con where
  terms : List Term
  bound : Int
  deriving DecidableEq
structure Step where
  kind : Int
  a : Int
  b : Int
  given : Con
  deriving DecidableEq
structure Db where
  list : List Con
  gone : List Bool
structure Rd where
  b : List UInt8
  p : Int
theorem pair1 {α β : Type} {a : RP α} {b : RP β} (ha : a.n = 1) {H : FH} {cs : List Value} {p : α × β} :
    (RP.pair a b).rel H cs p ↔ ∃ v c2, cs = v :: c2 ∧ a.rel H [v] p.1 ∧ b.rel H c2 p.2 := by
  constructor
  · rintro ⟨c1, c2, rfl, h1, h2⟩
    have hl := a.len h1
    rw [ha] at hl
    match c1, hl with
    | [v], _ => exact ⟨v, c2, rfl, h1, h2⟩
  · rintro ⟨v, c2, rfl, h1, h2⟩
    exact ⟨[v], c2, rfl, h1, h2⟩
theorem int_iff {H : FH} {cs : List Value} {x : Int} : RP.int.rel H cs x ↔ cs = [.int .i64 x] := Iff.rfl
def rTerm : RP Term := RP.map (fun t => (t.coef, t.lit)) (RP.pair RP.int RP.int)
def rCon (tT : Nat) : RP Con := RP.map (fun c => (c.terms, c.bound)) (RP.pair (RP.slice tT rTerm) RP.int)
def rStep (tT : Nat) : RP Step := RP.map (fun s => (s.kind, s.a, s.b, s.given)) (RP.pair RP.int (RP.pair RP.int (RP.pair RP.int (rCon tT))))
section
variable {tT ti tis tr tC tB tS : Nat} {H : FH} {cs : List Value}
theorem rTerm_iff {t : Term} : rTerm.rel H cs t ↔ cs = [.int .i64 t.coef, .int .i64 t.lit] := by
  show (RP.pair RP.int RP.int).rel H cs (t.coef, t.lit) ↔ _
  rw [pair1 rfl]
  constructor
  · rintro ⟨v, c2, rfl, h1, h2⟩; rw [int_iff] at h1 h2; simp at h1; simp [h1, h2]
  · rintro rfl; exact ⟨_, _, rfl, rfl, rfl⟩
theorem rCon_iff {c : Con} : (rCon tT).rel H cs c ↔ ∃ v, cs = [v, .int .i64 c.bound] ∧ (RP.slice tT rTerm).rel H [v] c.terms := by
  show (RP.pair (RP.slice tT rTerm) RP.int).rel H cs (c.terms, c.bound) ↔ _
  rw [pair1 rfl]
  constructor
  · rintro ⟨v, c2, rfl, h1, h2⟩; rw [int_iff] at h2; exact ⟨v, by simp [h2], h1⟩
  · rintro ⟨v, rfl, h1⟩; exact ⟨v, _, rfl, h1, rfl⟩
theorem rStep_iff {s : Step} : (rStep tT).rel H cs s ↔ ∃ v, cs = [.int .i64 s.kind, .int .i64 s.a, .int .i64 s.b, v, .int .i64 s.given.bound] ∧ (RP.slice tT rTerm).rel H [v] s.given.terms := by
  show (RP.pair RP.int (RP.pair RP.int (RP.pair RP.int (rCon tT)))).rel H cs (s.kind, s.a, s.b, s.given) ↔ _
  simp only [pair1 (a := RP.int) rfl, rCon_iff]
  constructor
  · rintro ⟨v, c2, rfl, h1, v1, c3, rfl, h2, v2, c4, rfl, h3, u, rfl, h4⟩
    rw [int_iff] at h1 h2 h3
    simp at h1 h2 h3
    exact ⟨u, by simp [h1, h2, h3], h4⟩
  · rintro ⟨v, rfl, h⟩; exact ⟨_, _, rfl, rfl, _, _, rfl, rfl, _, _, rfl, rfl, v, rfl, h⟩
end
theorem term_eqIn {P : Program} {t : TypeId} {fs : Array Field} {f1 f2 : Field} (hu : P.underlying t = some (.struct fs)) (hfs : fs.toList = [f1, f2]) (hn1 : f1.name ≠ "_") (hn2 : f2.name ≠ "_") (ho1 : f1.offset = 0) (ho2 : f2.offset = 1)
    (h1 : P.underlying f1.type = some (.int .i64)) (h2 : P.underlying f2.type = some (.int .i64)) (hp : P.stoodInHeld t = false) (d : Nat) (x1 x2 y1 y2 : Int) (w : World) :
    (Op.equalIn (d + 2) t (.agg #[.int .i64 x1, .int .i64 x2]) (.agg #[.int .i64 y1, .int .i64 y2])).run P w = .ok (x1 == y1 && x2 == y2) w := by
  have hf : P.fieldsOf t = fs := by simp [Program.fieldsOf, hu]
  rw [run_equalIn_agg w (d + 1) t _ _ (by rw [hu, hf]) hp, hf, hfs]
  have ha1 : (isAgg f1.type).run P w = .ok false w := by simp [isAgg, run_underlying h1]
  have ha2 : (isAgg f2.type).run P w = .ok false w := by simp [isAgg, run_underlying h2]
  have p1 : ∀ a b : Value, (part f1.type #[a, b] f1.offset).run P w = .ok a w := by intro a b; simp [part, ha1, ho1]
  have p2 : ∀ a b : Value, (part f2.type #[a, b] f2.offset).run P w = .ok b w := by intro a b; simp [part, ha2, ho2]
  simp only [Op.eqFields, hn1, hn2, if_true, Sem.run_bind, p1, Result.andThen_ok, run_equalIn_int _ _ _ _ _ _ _ h1, ne_eq, not_false_eq_true]
  by_cases e1 : x1 = y1 <;> by_cases e2 : x2 = y2 <;> simp [e1, e2, p2, run_equalIn_int _ _ _ _ _ _ _ h2]
structure TermEq (P : Program) (t : TypeId) : Prop where
  guard : P.eqGuardType P.depth t = false
  eq : ∀ (x1 x2 y1 y2 : Int) (w : World), (Op.equal t (.agg #[.int .i64 x1, .int .i64 x2]) (.agg #[.int .i64 y1, .int .i64 y2])).run P w = .ok (x1 == y1 && x2 == y2) w
theorem termEq_of {P : Program} {t : TypeId} {fs : Array Field} {f1 f2 : Field} (hg : P.eqGuardType P.depth t = false) (hu : P.underlying t = some (.struct fs)) (hfs : fs.toList = [f1, f2]) (hn1 : f1.name ≠ "_") (hn2 : f2.name ≠ "_") (ho1 : f1.offset = 0) (ho2 : f2.offset = 1)
    (h1 : P.underlying f1.type = some (.int .i64)) (h2 : P.underlying f2.type = some (.int .i64)) (hp : P.stoodInHeld t = false) : TermEq P t :=
  ⟨hg, fun x1 x2 y1 y2 w => term_eqIn hu hfs hn1 hn2 ho1 ho2 h1 h2 hp 9998 x1 x2 y1 y2 w⟩
theorem term_beq (x1 x2 y1 y2 : Int) : (x1 == y1 && x2 == y2) = ((⟨x1, x2⟩ : Term) == ⟨y1, y2⟩) := by
  rw [Bool.eq_iff_iff]
  simp
section rules
variable {P : Program} {N : Nat} {Q : Post} {f : Fr} {w : World} {ops : Array Oper} {rest : List Oper} {d : Nat} {ty : TypeId} {pos : String} {af : Array Edge} {gd : Option (Nat × Bool)}
variable {x y : Operand} {t u : TypeId} {b c : Bool} {x1 x2 y1 y2 : Int}
theorem L_beql (hk : ok1 ops f N d gd = true) (hu : P.underlying t = some .bool) (hx : ev f x = .bool b) (hy : ev f y = .bool c) (h : L P N ops rest Q (upd f d (.bool (b == c))) w) :
    L P N ops (⟨some d, .binOp .eql t x y u, ty, pos, af, gd⟩ :: rest) Q f w :=
  L_pure hk (by simp [execOp, hx, hy, eqGuard, binOp, run_equal_bool, hu]) h
theorem L_tneq (hk : ok1 ops f N d gd = true) (hu : TermEq P t) (hx : ev f x = .agg #[.int .i64 x1, .int .i64 x2]) (hy : ev f y = .agg #[.int .i64 y1, .int .i64 y2])
    (h : L P N ops rest Q (upd f d (.bool (!((⟨x1, x2⟩ : Term) == ⟨y1, y2⟩)))) w) :
    L P N ops (⟨some d, .binOp .neq t x y u, ty, pos, af, gd⟩ :: rest) Q f w :=
  L_pure hk (by rw [← term_beq]; simp [execOp, hx, hy, eqGuard, binOp, hu.eq, hu.guard]) h
end rules
theorem flat_term : rTerm.flat := RP.flat_map (RP.flat_pair RP.flat_int RP.flat_int)
def oCon (tT : Nat) : OR Con := OR.map (fun c => (c.terms, c.bound)) (OR.pair (OR.ownS tT (OR.frz rTerm)) (OR.frz RP.int))
def oStep (tT : Nat) : OR Step := OR.map (fun s => (s.kind, s.a, s.b, s.given)) (OR.pair (OR.frz RP.int) (OR.pair (OR.frz RP.int) (OR.pair (OR.frz RP.int) (oCon tT))))
theorem closed_int : (OR.frz RP.int).closed := OR.closed_frz RP.flat_int
theorem closed_str : (OR.frz RP.str).closed := OR.closed_frz RP.flat_str
theorem closed_term : (OR.frz rTerm).closed := OR.closed_frz flat_term
theorem closed_oCon {tT : Nat} : (oCon tT).closed := OR.closed_map (OR.closed_pair (OR.closed_ownS closed_term) closed_int)
theorem closed_oStep {tT : Nat} : (oStep tT).closed := OR.closed_map (OR.closed_pair closed_int (OR.closed_pair closed_int (OR.closed_pair closed_int closed_oCon)))
section
variable {H : FH} {w : World} {As : List Ass} {α β : Type}
theorem Star.pair {a : OR α} {b : OR β} {c1 c2 : List Value} {p : α × β} (h : Star H w (own a c1 p.1 :: own b c2 p.2 :: As)) : Star H w (own (OR.pair a b) (c1 ++ c2) p :: As) := by
  obtain ⟨hs, F, ⟨G1, F2, rfl, h1, G2, F3, rfl, h2, h3⟩, hn, hm⟩ := h
  exact ⟨hs, G1 ++ (G2 ++ F3), ⟨G1 ++ G2, F3, by simp, ⟨G1, G2, c1, c2, rfl, rfl, h1, h2⟩, h3⟩, hn, hm⟩
theorem oCon_close {tT : Nat} {v : Value} {c : Con} (h : Star H w (own (OR.ownS tT (OR.frz rTerm)) [v] c.terms :: As)) : Star H w (own (oCon tT) [v, .int .i64 c.bound] c :: As) := by
  have h2 : Star H w (own (OR.frz RP.int) [.int .i64 c.bound] c.bound :: own (OR.ownS tT (OR.frz rTerm)) [v] c.terms :: As) := h.addF rfl
  exact Star.pair (c1 := [v]) (c2 := [.int .i64 c.bound]) (p := (c.terms, c.bound)) (h2.get 1 rfl)
theorem oStep_close {tT : Nat} {v : Value} {s : Step} (h : Star H w (own (OR.ownS tT (OR.frz rTerm)) [v] s.given.terms :: As)) : Star H w (own (oStep tT) [.int .i64 s.kind, .int .i64 s.a, .int .i64 s.b, v, .int .i64 s.given.bound] s :: As) := by
  have h1 := (oCon_close h).addF (r := RP.int) (cs := [.int .i64 s.b]) (x := s.b) rfl
  have h2 := (Star.pair (p := (s.b, s.given)) h1).addF (r := RP.int) (cs := [.int .i64 s.a]) (x := s.a) rfl
  have h3 := (Star.pair (p := (s.a, s.b, s.given)) h2).addF (r := RP.int) (cs := [.int .i64 s.kind]) (x := s.kind) rfl
  exact Star.pair (p := (s.kind, s.a, s.b, s.given)) h3
theorem Star.shallow {R : OR α} {e : TypeId} {v : Value} {xs : List α} (h : Star H w (own (OR.ownS e R) [v] xs :: As)) : ∃ H', Le H H' ∧ Star H' w (own (OR.ownS e (OR.frz R.r)) [v] xs :: As) := by
  obtain ⟨hs, F, ⟨F1, F2, rfl, h1, h2⟩, hn, hm⟩ := h
  rcases h1 with ⟨hv, rfl, rfl⟩ | ⟨g, cap, c, Fs, hv, hb, g1, g2, g3, rfl, he1, he2⟩
  · exact ⟨H, Le.refl _, hs, [] ++ F2, ⟨[], F2, rfl, .inl ⟨hv, rfl, rfl⟩, h2⟩, hn, hm⟩
  obtain ⟨hn1, hn2, hn3⟩ := List.nodup_append.1 hn
  obtain ⟨hg, hnF⟩ := List.nodup_cons.1 hn1
  have hmF : ∀ b ∈ List.flatten Fs, H.m b = none := fun b hb => hm b (List.mem_append_left _ (List.mem_cons_of_mem _ hb))
  have hle : Le H (H.add w (List.flatten Fs)) := le_add hmF
  have hnil : ∀ n : Nat, List.flatten (List.replicate n ([] : List Nat)) = [] := fun n => by simp
  refine ⟨H.add w (List.flatten Fs), hle, sub_add hs, (g :: List.flatten (List.replicate xs.length [])) ++ F2, ⟨_, F2, rfl, .inr ⟨g, cap, c, List.replicate xs.length [], hv, hb, g1, g2, g3, rfl, by simp, fun i x G hi hG => ?_⟩, SepL.mono h2 hle⟩, ?_, ?_⟩
  · rw [List.getElem?_replicate] at hG
    split at hG
    · injection hG with hG
      subst hG
      obtain ⟨G, cs', hG, hr, hj⟩ := OR.Els.get ⟨he1, he2⟩ hi
      refine ⟨cs', ⟨rfl, R.fz hr hle fun b hb => ?_⟩, hj⟩
      have : b ∈ List.flatten Fs := List.mem_flatten.2 ⟨G, List.mem_of_getElem? hG, hb⟩
      exact add_in (hmF b this) this
    · cases hG
  · rw [hnil]
    exact List.nodup_append.2 ⟨by simp, hn2, fun a ha b hb => hn3 a (by simp at ha; subst ha; simp) b hb⟩
  · rw [hnil]
    intro b hb
    have hb2 : b ∈ [g] ++ F2 := hb
    have hbF : b ∉ List.flatten Fs := by
      rcases List.mem_append.1 hb2 with h | h
      · simp at h; subst h; exact hg
      · exact fun hx => hn3 b (List.mem_cons_of_mem _ hx) b h rfl
    rw [add_out hbF]
    rcases List.mem_append.1 hb2 with h | h
    · simp at h; subst h; exact hm _ (by simp)
    · exact hm b (List.mem_append_right _ h)
theorem Star.recast {R : OR α} {R' : OR α} {e : TypeId} {v : Value} (hn : R.r.n = R'.r.n) (h : Star H w (own (OR.ownS e R) [v] [] :: As)) : Star H w (own (OR.ownS e R') [v] [] :: As) := by
  refine h.conv (B := [_]) fun F hF => ?_
  refine ⟨F, ⟨F, [], (List.append_nil _).symm, ?_, rfl⟩, .refl _⟩
  rcases hF with h | ⟨g, cap, c, Fs, hv, hb, g1, g2, g3, hF, he1, he2⟩
  · exact .inl h
  · exact .inr ⟨g, cap, c, Fs, hv, hb, g1, g2, hn ▸ g3, hF, he1, fun i x G hi => by simp at hi⟩
section
variable {P : Program} {N : Nat} {Q : Post} {f : Fr} {ops : Array Oper} {rest : List Oper} {ty : TypeId} {pos : String} {af : Array Edge} {gd : Option (Nat × Bool)} {x y : Operand}
end
theorem fldF_rTerm_0 {n : Int} {z : Term} : ∀ (H : FH) (w : World) (G : List Nat) (cs : List Value), (OR.frz rTerm).rel H w G cs z → 0 < cs.length ∧ (OR.frz rTerm).rel H w G (cs.set 0 (.int .i64 n)) { z with coef := n } := by
  rintro H w G cs ⟨rfl, h⟩
  rw [rTerm_iff] at h; subst h
  exact ⟨by simp, rfl, rTerm_iff.2 rfl⟩
theorem fldF_rTerm_1 {n : Int} {z : Term} : ∀ (H : FH) (w : World) (G : List Nat) (cs : List Value), (OR.frz rTerm).rel H w G cs z → 1 < cs.length ∧ (OR.frz rTerm).rel H w G (cs.set 1 (.int .i64 n)) { z with lit := n } := by
  rintro H w G cs ⟨rfl, h⟩
  rw [rTerm_iff] at h; subst h
  exact ⟨by simp, rfl, rTerm_iff.2 rfl⟩
theorem fz_own {R : OR α} {cs : List Value} {x : α} {Bs : List Ass} {Hb : FH} (i : Nat) (h : ∀ A ∈ As, A.fz Hb) (hp : pick i As = some (own R cs x, Bs)) : R.r.rel Hb cs x := fz_get i h hp
theorem Star.unboxV {v : Value} {t : TypeId} {cs : Array Value} (h : Star H w (boxV v t cs :: As)) : ∃ g, v = .pointer (some ⟨g, 0, none⟩) ∧ Star H w (box g t cs :: As) := by
  obtain ⟨hs, F, ⟨F1, F2, rfl, ⟨g, hv, hF, hb⟩, h2⟩, hn, hm⟩ := h
  exact ⟨g, hv, hs, F1 ++ F2, ⟨F1, F2, rfl, ⟨hF, hb⟩, h2⟩, hn, hm⟩
theorem Star.boxV {v : Value} {g : Nat} {t : TypeId} {cs : Array Value} (hv : v = .pointer (some ⟨g, 0, none⟩)) (h : Star H w (box g t cs :: As)) : Star H w (Go.E.boxV v t cs :: As) := by
  obtain ⟨hs, F, ⟨F1, F2, rfl, ⟨hF, hb⟩, h2⟩, hn, hm⟩ := h
  exact ⟨hs, F1 ++ F2, ⟨F1, F2, rfl, ⟨g, hv, hF, hb⟩, h2⟩, hn, hm⟩
theorem Star.keepN (n : Nat) (h : Star H w As) : Star H w (As.take n) := by
  have : Star H w (As.take n ++ As.drop n) := by rw [List.take_append_drop]; exact h
  exact this.take
def aggC (v : Value) (j : Nat) : Value := match v with | .agg cs => cs.getD j undef | _ => undef
def tupC (v : Value) (j : Nat) : Value := match v with | .tuple cs => cs.getD j undef | _ => undef
end
section
variable {P : Program} {N : Nat} {Q : Post} {f : Fr} {w : World} {ops : Array Oper} {rest : List Oper} {d : Nat} {ty : TypeId} {pos : String} {af : Array Edge} {gd : Option (Nat × Bool)}
variable {x y : Operand} {t e u : TypeId} {H : FH} {As Bs : List Ass} {g n : Nat} {xs : List Int} {k z : Int}
end
section
variable {δ ι : Type} {H : FH} {w : World} {As : List Ass} {f : δ → Nat → ι → List Ass}
end
end Go.E
