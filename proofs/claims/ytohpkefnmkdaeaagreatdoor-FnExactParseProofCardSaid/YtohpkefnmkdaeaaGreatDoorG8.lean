/- The program's data as Lean structures, and how each lies in cells; rows whose elements own rows. -/
import Derived.Test.YtohpkefnmkdaeaaGreatDoorG7
namespace Go.E
open Go Go.RowKit
set_option linter.unusedVariables false
set_option linter.unusedSimpArgs false
structure Term where
  coef : Int
  lit : Int
  deriving DecidableEq
structure Con where
  terms : List Term
  bound : Int
  deriving DecidableEq
structure Step where
  kind : Int
  a : Int
  b : Int
  given : Con
  deriving DecidableEq
theorem pair1 {α β : Type} {a : RP α} {b : RP β} (ha : a.n = 1) {H : FH} {cs : List Value} {p : α × β} :
    (RP.pair a b).rel H cs p ↔ ∃ v c2, cs = v :: c2 ∧ a.rel H [v] p.1 ∧ b.rel H c2 p.2 := by
  constructor
  · rintro ⟨c1, c2, rfl, h1, h2⟩
    have hl := a.len h1
    rw [ha] at hl
    match c1, hl with
    | [v], _ => exact ⟨v, c2, rfl, h1, h2⟩
  · rintro ⟨v, c2, rfl, h1, h2⟩
    exact ⟨[v], c2, rfl, h1, h2⟩
theorem int_iff {H : FH} {cs : List Value} {x : Int} : RP.int.rel H cs x ↔ cs = [.int .i64 x] := Iff.rfl
def rTerm : RP Term := RP.map (fun t => (t.coef, t.lit)) (RP.pair RP.int RP.int)
def rCon (tT : Nat) : RP Con := RP.map (fun c => (c.terms, c.bound)) (RP.pair (RP.slice tT rTerm) RP.int)
def rStep (tT : Nat) : RP Step := RP.map (fun s => (s.kind, s.a, s.b, s.given)) (RP.pair RP.int (RP.pair RP.int (RP.pair RP.int (rCon tT))))
section
variable {tT ti tis tr tC tB tS : Nat} {H : FH} {cs : List Value}
theorem rTerm_iff {t : Term} : rTerm.rel H cs t ↔ cs = [.int .i64 t.coef, .int .i64 t.lit] := by
  show (RP.pair RP.int RP.int).rel H cs (t.coef, t.lit) ↔ _
  rw [pair1 rfl]
  constructor
  · rintro ⟨v, c2, rfl, h1, h2⟩; rw [int_iff] at h1 h2; simp at h1; simp [h1, h2]
  · rintro rfl; exact ⟨_, _, rfl, rfl, rfl⟩
theorem rCon_iff {c : Con} : (rCon tT).rel H cs c ↔ ∃ v, cs = [v, .int .i64 c.bound] ∧ (RP.slice tT rTerm).rel H [v] c.terms := by
  show (RP.pair (RP.slice tT rTerm) RP.int).rel H cs (c.terms, c.bound) ↔ _
  rw [pair1 rfl]
  constructor
  · rintro ⟨v, c2, rfl, h1, h2⟩; rw [int_iff] at h2; exact ⟨v, by simp [h2], h1⟩
  · rintro ⟨v, rfl, h1⟩; exact ⟨v, _, rfl, h1, rfl⟩
theorem rStep_iff {s : Step} : (rStep tT).rel H cs s ↔ ∃ v, cs = [.int .i64 s.kind, .int .i64 s.a, .int .i64 s.b, v, .int .i64 s.given.bound] ∧ (RP.slice tT rTerm).rel H [v] s.given.terms := by
  show (RP.pair RP.int (RP.pair RP.int (RP.pair RP.int (rCon tT)))).rel H cs (s.kind, s.a, s.b, s.given) ↔ _
  simp only [pair1 (a := RP.int) rfl, rCon_iff]
  constructor
  · rintro ⟨v, c2, rfl, h1, v1, c3, rfl, h2, v2, c4, rfl, h3, u, rfl, h4⟩
    rw [int_iff] at h1 h2 h3
    simp at h1 h2 h3
    exact ⟨u, by simp [h1, h2, h3], h4⟩
  · rintro ⟨v, rfl, h⟩; exact ⟨_, _, rfl, rfl, _, _, rfl, rfl, _, _, rfl, rfl, v, rfl, h⟩
end
theorem term_eqIn {P : Program} {t : TypeId} {fs : Array Field} {f1 f2 : Field} (hu : P.underlying t = some (.struct fs)) (hfs : fs.toList = [f1, f2]) (hn1 : f1.name ≠ "_") (hn2 : f2.name ≠ "_") (ho1 : f1.offset = 0) (ho2 : f2.offset = 1)
    (h1 : P.underlying f1.type = some (.int .i64)) (h2 : P.underlying f2.type = some (.int .i64)) (hp : P.stoodInHeld t = false) (d : Nat) (x1 x2 y1 y2 : Int) (w : World) :
    (Op.equalIn (d + 2) t (.agg #[.int .i64 x1, .int .i64 x2]) (.agg #[.int .i64 y1, .int .i64 y2])).run P w = .ok (x1 == y1 && x2 == y2) w := by
  have hf : P.fieldsOf t = fs := by simp [Program.fieldsOf, hu]
  rw [run_equalIn_agg w (d + 1) t _ _ (by rw [hu, hf]) hp, hf, hfs]
  have ha1 : (isAgg f1.type).run P w = .ok false w := by simp [isAgg, run_underlying h1]
  have ha2 : (isAgg f2.type).run P w = .ok false w := by simp [isAgg, run_underlying h2]
  have p1 : ∀ a b : Value, (part f1.type #[a, b] f1.offset).run P w = .ok a w := by intro a b; simp [part, ha1, ho1]
  have p2 : ∀ a b : Value, (part f2.type #[a, b] f2.offset).run P w = .ok b w := by intro a b; simp [part, ha2, ho2]
  simp only [Op.eqFields, hn1, hn2, if_true, Sem.run_bind, p1, Result.andThen_ok, run_equalIn_int _ _ _ _ _ _ _ h1, ne_eq, not_false_eq_true]
  by_cases e1 : x1 = y1 <;> by_cases e2 : x2 = y2 <;> simp [e1, e2, p2, run_equalIn_int _ _ _ _ _ _ _ h2]
structure TermEq (P : Program) (t : TypeId) : Prop where
  guard : P.eqGuardType P.depth t = false
  eq : ∀ (x1 x2 y1 y2 : Int) (w : World), (Op.equal t (.agg #[.int .i64 x1, .int .i64 x2]) (.agg #[.int .i64 y1, .int .i64 y2])).run P w = .ok (x1 == y1 && x2 == y2) w
theorem termEq_of {P : Program} {t : TypeId} {fs : Array Field} {f1 f2 : Field} (hg : P.eqGuardType P.depth t = false) (hu : P.underlying t = some (.struct fs)) (hfs : fs.toList = [f1, f2]) (hn1 : f1.name ≠ "_") (hn2 : f2.name ≠ "_") (ho1 : f1.offset = 0) (ho2 : f2.offset = 1)
    (h1 : P.underlying f1.type = some (.int .i64)) (h2 : P.underlying f2.type = some (.int .i64)) (hp : P.stoodInHeld t = false) : TermEq P t :=
  ⟨hg, fun x1 x2 y1 y2 w => term_eqIn hu hfs hn1 hn2 ho1 ho2 h1 h2 hp 9998 x1 x2 y1 y2 w⟩
theorem term_beq (x1 x2 y1 y2 : Int) : (x1 == y1 && x2 == y2) = ((⟨x1, x2⟩ : Term) == ⟨y1, y2⟩) := by
  rw [Bool.eq_iff_iff]
  simp
section rules
variable {P : Program} {N : Nat} {Q : Post} {f : Fr} {w : World} {ops : Array Oper} {rest : List Oper} {d : Nat} {ty : TypeId} {pos : String} {af : Array Edge} {gd : Option (Nat × Bool)}
variable {x y : Operand} {t u : TypeId} {b c : Bool} {x1 x2 y1 y2 : Int}
theorem L_bneq (hk : ok1 ops f N d gd = true) (hu : P.underlying t = some .bool) (hx : ev f x = .bool b) (hy : ev f y = .bool c) (h : L P N ops rest Q (upd f d (.bool (b != c))) w) :
    L P N ops (⟨some d, .binOp .neq t x y u, ty, pos, af, gd⟩ :: rest) Q f w :=
  L_pure hk (by simp [execOp, hx, hy, eqGuard, binOp, run_equal_bool, hu, bne]) h
theorem L_tneq (hk : ok1 ops f N d gd = true) (hu : TermEq P t) (hx : ev f x = .agg #[.int .i64 x1, .int .i64 x2]) (hy : ev f y = .agg #[.int .i64 y1, .int .i64 y2])
    (h : L P N ops rest Q (upd f d (.bool (!((⟨x1, x2⟩ : Term) == ⟨y1, y2⟩)))) w) :
    L P N ops (⟨some d, .binOp .neq t x y u, ty, pos, af, gd⟩ :: rest) Q f w :=
  L_pure hk (by rw [← term_beq]; simp [execOp, hx, hy, eqGuard, binOp, hu.eq, hu.guard]) h
end rules
theorem flat_term : rTerm.flat := RP.flat_map (RP.flat_pair RP.flat_int RP.flat_int)
def oCon (tT : Nat) : OR Con := OR.map (fun c => (c.terms, c.bound)) (OR.pair (OR.ownS tT (OR.frz rTerm)) (OR.frz RP.int))
def oStep (tT : Nat) : OR Step := OR.map (fun s => (s.kind, s.a, s.b, s.given)) (OR.pair (OR.frz RP.int) (OR.pair (OR.frz RP.int) (OR.pair (OR.frz RP.int) (oCon tT))))
theorem closed_int : (OR.frz RP.int).closed := OR.closed_frz RP.flat_int
theorem closed_str : (OR.frz RP.str).closed := OR.closed_frz RP.flat_str
theorem closed_term : (OR.frz rTerm).closed := OR.closed_frz flat_term
theorem closed_oCon {tT : Nat} : (oCon tT).closed := OR.closed_map (OR.closed_pair (OR.closed_ownS closed_term) closed_int)
theorem closed_oStep {tT : Nat} : (oStep tT).closed := OR.closed_map (OR.closed_pair closed_int (OR.closed_pair closed_int (OR.closed_pair closed_int closed_oCon)))
section
variable {H : FH} {w : World} {As : List Ass} {α β : Type}
theorem Star.unpair {a : OR α} {b : OR β} {cs : List Value} {p : α × β} (h : Star H w (own (OR.pair a b) cs p :: As)) : ∃ c1 c2, cs = c1 ++ c2 ∧ Star H w (own a c1 p.1 :: own b c2 p.2 :: As) := by
  obtain ⟨hs, F, ⟨F1, F2, rfl, ⟨G1, G2, c1, c2, rfl, rfl, h1, h2⟩, h3⟩, hn, hm⟩ := h
  exact ⟨c1, c2, rfl, hs, (G1 ++ G2) ++ F2, ⟨G1, G2 ++ F2, by simp, h1, G2, F2, rfl, h2, h3⟩, hn, hm⟩
theorem Star.pair {a : OR α} {b : OR β} {c1 c2 : List Value} {p : α × β} (h : Star H w (own a c1 p.1 :: own b c2 p.2 :: As)) : Star H w (own (OR.pair a b) (c1 ++ c2) p :: As) := by
  obtain ⟨hs, F, ⟨G1, F2, rfl, h1, G2, F3, rfl, h2, h3⟩, hn, hm⟩ := h
  exact ⟨hs, G1 ++ (G2 ++ F3), ⟨G1 ++ G2, F3, by simp, ⟨G1, G2, c1, c2, rfl, rfl, h1, h2⟩, h3⟩, hn, hm⟩
theorem Star.unF {r : RP α} {cs : List Value} {x : α} (h : Star H w (own (OR.frz r) cs x :: As)) : r.rel H cs x := by
  obtain ⟨F, hF⟩ := h.one
  exact hF.2
theorem own1 {R : OR α} {cs : List Value} {x : α} (hn : R.r.n = 1) (h : Star H w (own R cs x :: As)) : ∃ v, cs = [v] := by
  obtain ⟨F, hF⟩ := h.one
  have hl := R.len hF
  rw [hn] at hl
  match cs, hl with
  | [v], _ => exact ⟨v, rfl⟩
theorem oCon_open {tT : Nat} {cs : List Value} {c : Con} (h : Star H w (own (oCon tT) cs c :: As)) : ∃ v, cs = [v, .int .i64 c.bound] ∧ Star H w (own (OR.ownS tT (OR.frz rTerm)) [v] c.terms :: As) := by
  obtain ⟨c1, c2, rfl, k⟩ := Star.unpair (p := (c.terms, c.bound)) h
  clear h
  obtain ⟨v, rfl⟩ := own1 rfl k
  have h2 := int_iff.1 (k.get 1 rfl).unF
  subst h2
  exact ⟨v, rfl, k.drop 1 rfl⟩
theorem oCon_close {tT : Nat} {v : Value} {c : Con} (h : Star H w (own (OR.ownS tT (OR.frz rTerm)) [v] c.terms :: As)) : Star H w (own (oCon tT) [v, .int .i64 c.bound] c :: As) := by
  have h2 : Star H w (own (OR.frz RP.int) [.int .i64 c.bound] c.bound :: own (OR.ownS tT (OR.frz rTerm)) [v] c.terms :: As) := h.addF rfl
  exact Star.pair (c1 := [v]) (c2 := [.int .i64 c.bound]) (p := (c.terms, c.bound)) (h2.get 1 rfl)
theorem oStep_open {tT : Nat} {cs : List Value} {s : Step} (h : Star H w (own (oStep tT) cs s :: As)) : ∃ v, cs = [.int .i64 s.kind, .int .i64 s.a, .int .i64 s.b, v, .int .i64 s.given.bound] ∧ Star H w (own (OR.ownS tT (OR.frz rTerm)) [v] s.given.terms :: As) := by
  obtain ⟨c1, c2, rfl, k1⟩ := Star.unpair (p := (s.kind, s.a, s.b, s.given)) h
  clear h
  obtain rfl := int_iff.1 k1.unF
  obtain ⟨c3, c4, rfl, k2⟩ := Star.unpair k1.tail
  clear k1
  obtain rfl := int_iff.1 k2.unF
  obtain ⟨c5, c6, rfl, k3⟩ := Star.unpair k2.tail
  clear k2
  obtain rfl := int_iff.1 k3.unF
  obtain ⟨v, rfl, k4⟩ := oCon_open k3.tail
  exact ⟨v, rfl, k4⟩
theorem oStep_close {tT : Nat} {v : Value} {s : Step} (h : Star H w (own (OR.ownS tT (OR.frz rTerm)) [v] s.given.terms :: As)) : Star H w (own (oStep tT) [.int .i64 s.kind, .int .i64 s.a, .int .i64 s.b, v, .int .i64 s.given.bound] s :: As) := by
  have h1 := (oCon_close h).addF (r := RP.int) (cs := [.int .i64 s.b]) (x := s.b) rfl
  have h2 := (Star.pair (p := (s.b, s.given)) h1).addF (r := RP.int) (cs := [.int .i64 s.a]) (x := s.a) rfl
  have h3 := (Star.pair (p := (s.a, s.b, s.given)) h2).addF (r := RP.int) (cs := [.int .i64 s.kind]) (x := s.kind) rfl
  exact Star.pair (p := (s.kind, s.a, s.b, s.given)) h3
theorem Star.recast {R : OR α} {R' : OR α} {e : TypeId} {v : Value} (hn : R.r.n = R'.r.n) (h : Star H w (own (OR.ownS e R) [v] [] :: As)) : Star H w (own (OR.ownS e R') [v] [] :: As) := by
  refine h.conv (B := [_]) fun F hF => ?_
  refine ⟨F, ⟨F, [], (List.append_nil _).symm, ?_, rfl⟩, .refl _⟩
  rcases hF with h | ⟨g, cap, c, Fs, hv, hb, g1, g2, g3, hF, he1, he2⟩
  · exact .inl h
  · exact .inr ⟨g, cap, c, Fs, hv, hb, g1, g2, hn ▸ g3, hF, he1, fun i x G hi => by simp at hi⟩
def hole (e : TypeId) (R : OR α) (v : Value) (xs : List α) (k : Nat) (cs : List Value) : Ass where
  p H w F := ∃ (g cap : Nat) (c : Array Value) (Fs : List (List Nat)), v = .slice (some ⟨g, 0, none⟩) xs.length cap ∧ Blk w g e c ∧ xs.length ≤ cap ∧ cap ≤ maxLen ∧ c.size = cap * R.r.n ∧ Fs.length = xs.length ∧ F = g :: (List.flatten (Fs.take k) ++ List.flatten (Fs.drop (k + 1))) ∧
    (∀ (i : Nat) (x : α) (G : List Nat), i ≠ k → xs[i]? = some x → Fs[i]? = some G → ∃ cs', R.rel H w G cs' x ∧ ∀ j v, cs'[j]? = some v → c[i * R.r.n + j]? = some v) ∧ ∀ j v, cs[j]? = some v → c[k * R.r.n + j]? = some v
  fz _ := True
  mono := by
    rintro H H' w F ⟨g, cap, c, Fs, hv, hb, g1, g2, g3, g4, hF, he, hk⟩ hl
    refine ⟨g, cap, c, Fs, hv, hb, g1, g2, g3, g4, hF, fun i x G hne hi hG => ?_, hk⟩
    obtain ⟨cs', hr, hj⟩ := he i x G hne hi hG
    exact ⟨cs', R.mono hr hl, hj⟩
  loc := by
    rintro H w w' F ⟨g, cap, c, Fs, hv, hb, g1, g2, g3, g4, rfl, he, hk⟩ hl
    refine ⟨g, cap, c, Fs, hv, (hl g (by simp)).trans hb, g1, g2, g3, g4, rfl, fun i x G hne hi hG => ?_, hk⟩
    obtain ⟨cs', hr, hj⟩ := he i x G hne hi hG
    refine ⟨cs', R.loc hr fun b hb => hl b (List.mem_cons_of_mem _ ?_), hj⟩
    rw [List.mem_append]
    rcases Nat.lt_or_gt_of_ne hne with h | h
    · exact .inl (List.mem_flatten.2 ⟨G, List.mem_of_getElem? (i := i) (by rw [List.getElem?_take_of_lt h]; exact hG), hb⟩)
    · exact .inr (List.mem_flatten.2 ⟨G, List.mem_of_getElem? (i := i - (k + 1)) (by rw [List.getElem?_drop, show k + 1 + (i - (k + 1)) = i from by omega]; exact hG), hb⟩)
  lt := by
    rintro H w F ⟨g, cap, c, Fs, hv, hb, g1, g2, g3, g4, rfl, he, hk⟩ b hbF
    rcases List.mem_cons.1 hbF with rfl | hbF
    · exact hb.lt
    · have hget : ∀ i, i < Fs.length → i ≠ k → ∀ b ∈ Fs[i]!, b < w.heap.size := by
        intro i hi hne b hb
        rw [List.getElem!_eq_getElem?_getD, List.getElem?_eq_getElem hi] at hb
        obtain ⟨cs', hr, _⟩ := he i _ _ hne (List.getElem?_eq_getElem (by omega)) (List.getElem?_eq_getElem hi)
        exact R.lt hr b hb
      rcases List.mem_append.1 hbF with h | h
      · obtain ⟨G, hG, hbG⟩ := List.mem_flatten.1 h
        obtain ⟨i, hi⟩ := List.getElem?_of_mem hG
        have hil := (List.getElem?_eq_some_iff.1 hi).1
        rw [List.length_take] at hil
        rw [List.getElem?_take_of_lt (by omega)] at hi
        refine hget i (by omega) (by omega) b ?_
        rw [List.getElem!_eq_getElem?_getD, hi]; exact hbG
      · obtain ⟨G, hG, hbG⟩ := List.mem_flatten.1 h
        obtain ⟨i, hi⟩ := List.getElem?_of_mem hG
        have hil := (List.getElem?_eq_some_iff.1 hi).1
        simp at hil
        rw [List.getElem?_drop] at hi
        refine hget (k + 1 + i) (by omega) (by omega) b ?_
        rw [List.getElem!_eq_getElem?_getD, hi]; exact hbG
  fzl _ _ _ := trivial
theorem flat_split {Fs : List (List Nat)} {k : Nat} (hk : k < Fs.length) : List.flatten Fs = List.flatten (Fs.take k) ++ (Fs[k] ++ List.flatten (Fs.drop (k + 1))) := by
  have hspl : Fs = Fs.take k ++ Fs[k] :: Fs.drop (k + 1) := by rw [List.getElem_cons_drop, List.take_append_drop]
  have h9 := congrArg List.flatten hspl
  rw [List.flatten_append, List.flatten_cons] at h9
  exact h9
theorem Star.focus {R : OR α} {e : TypeId} {v : Value} {xs : List α} {k : Int} {x : α} (h : Star H w (own (OR.ownS e R) [v] xs :: As)) (hk : idx xs k = some x) :
    ∃ cs, Star H w (own R cs x :: hole e R v xs k.toNat cs :: As) ∧ ∀ g cap len, v = .slice (some ⟨g, 0, none⟩) len cap → At w g (k.toNat * R.r.n) cs := by
  obtain ⟨_, hx, hlt⟩ := idx_some hk
  obtain ⟨hs, F, ⟨F1, F2, rfl, h1, h2⟩, hn, hm⟩ := h
  rcases h1 with ⟨_, rfl, _⟩ | ⟨g, cap, c, Fs, hv, hb, g1, g2, g3, rfl, he1, he2⟩
  · simp at hlt
  have hv : v = .slice (some ⟨g, 0, none⟩) xs.length cap := by simpa using hv
  have hkF : k.toNat < Fs.length := by omega
  obtain ⟨cs, hr, hj⟩ := he2 k.toNat x Fs[k.toNat] hx (List.getElem?_eq_getElem hkF)
  have hp : (Fs[k.toNat] ++ (g :: (List.flatten (Fs.take k.toNat) ++ List.flatten (Fs.drop (k.toNat + 1))) ++ F2)).Perm (g :: List.flatten Fs ++ F2) := by
    rw [flat_split hkF, ← List.append_assoc]
    refine List.Perm.append_right F2 ?_
    refine List.perm_append_comm.trans ?_
    rw [List.cons_append]
    refine List.Perm.cons g ?_
    rw [List.append_assoc]
    exact List.perm_append_comm.append_left _
  refine ⟨cs, ⟨hs, Fs[k.toNat] ++ (g :: (List.flatten (Fs.take k.toNat) ++ List.flatten (Fs.drop (k.toNat + 1))) ++ F2), ⟨_, _, rfl, hr, _, F2, rfl, ⟨g, cap, c, Fs, hv, hb, g1, g2, g3, he1, rfl, fun i x G _ hi hG => he2 i x G hi hG, hj⟩, h2⟩, hp.symm.nodup_iff.1 hn, fun b hb => hm b (hp.mem_iff.1 hb)⟩, fun g' cap' len' hv' => ?_⟩
  rw [hv] at hv'
  simp at hv'
  obtain ⟨rfl, _⟩ := hv'
  exact ⟨c, e, _, hb, hj⟩
theorem Star.unfocus {R : OR α} {e : TypeId} {v : Value} {xs : List α} {k : Nat} {x' : α} {cs : List Value} (hlt : k < xs.length) (h : Star H w (own R cs x' :: hole e R v xs k cs :: As)) : Star H w (own (OR.ownS e R) [v] (xs.set k x') :: As) := by
  have h' : Star H w ([own R cs x', hole e R v xs k cs] ++ As) := h
  refine h'.convL (B := [_]) fun F hF => ?_
  obtain ⟨G, F2, rfl, hr, F3, F4, rfl, ⟨g, cap, c, Fs, hv, hb, g1, g2, g3, g4, rfl, he, hk⟩, hF4⟩ := hF
  have hF4 : F4 = [] := hF4
  subst hF4
  rw [List.append_nil]
  have hkF : k < (Fs.set k G).length := by simp; omega
  refine ⟨g :: List.flatten (Fs.set k G), ⟨_, [], (List.append_nil _).symm, .inr ⟨g, cap, c, Fs.set k G, by simp [hv], hb, by simpa using g1, g2, g3, rfl, by simp [g4], fun i x G' hi hG => ?_⟩, rfl⟩, ?_⟩
  · rw [List.getElem?_set] at hi hG
    by_cases hik : k = i
    · subst hik
      rw [if_pos rfl, if_pos hlt] at hi
      rw [if_pos rfl, if_pos (by omega)] at hG
      injection hi with hi; injection hG with hG
      subst hi hG
      exact ⟨cs, hr, hk⟩
    · rw [if_neg hik] at hi hG
      exact he i x G' (Ne.symm hik) hi hG
  · rw [flat_split hkF]
    have e1 : (Fs.set k G).take k = Fs.take k := by rw [List.take_set_of_le (Nat.le_refl _)]
    have e2 : (Fs.set k G).drop (k + 1) = Fs.drop (k + 1) := by rw [List.drop_set_of_lt (Nat.lt_succ_self _)]
    have e3 : (Fs.set k G)[k] = G := by simp
    rw [e1, e2, e3]
    refine (List.Perm.cons g ?_).trans (List.perm_append_comm (l₁ := G) (l₂ := g :: _)).symm
    refine (List.perm_append_comm.append_left (List.flatten (Fs.take k))).trans ?_
    rw [← List.append_assoc]
    exact List.Perm.refl _
theorem ownS1 {R : OR α} {e : TypeId} {F : List Nat} {cs : List Value} {xs : List α} (h : (OR.ownS e R).rel H w F cs xs) : ∃ v, cs = [v] := by
  rcases h with ⟨h, _⟩ | ⟨_, _, _, _, h, _⟩ <;> exact ⟨_, h⟩
section
variable {P : Program} {N : Nat} {Q : Post} {f : Fr} {ops : Array Oper} {rest : List Oper} {ty : TypeId} {pos : String} {af : Array Edge} {gd : Option (Nat × Bool)} {x y : Operand}
end
theorem fldF_rTerm_0 {n : Int} {z : Term} : ∀ (H : FH) (w : World) (G : List Nat) (cs : List Value), (OR.frz rTerm).rel H w G cs z → 0 < cs.length ∧ (OR.frz rTerm).rel H w G (cs.set 0 (.int .i64 n)) { z with coef := n } := by
  rintro H w G cs ⟨rfl, h⟩
  rw [rTerm_iff] at h; subst h
  exact ⟨by simp, rfl, rTerm_iff.2 rfl⟩
theorem fldF_rTerm_1 {n : Int} {z : Term} : ∀ (H : FH) (w : World) (G : List Nat) (cs : List Value), (OR.frz rTerm).rel H w G cs z → 1 < cs.length ∧ (OR.frz rTerm).rel H w G (cs.set 1 (.int .i64 n)) { z with lit := n } := by
  rintro H w G cs ⟨rfl, h⟩
  rw [rTerm_iff] at h; subst h
  exact ⟨by simp, rfl, rTerm_iff.2 rfl⟩
theorem fld_oStep_0 {tT : Nat} {n : Int} {z : Step} : ∀ (H : FH) (w : World) (G : List Nat) (cs : List Value), (oStep tT).rel H w G cs z → 0 < cs.length ∧ (oStep tT).rel H w G (cs.set 0 (.int .i64 n)) { z with kind := n } := by
  rintro H w G cs ⟨F1, F2, c1, c2, rfl, rfl, ⟨rfl, h1⟩, h2⟩
  obtain rfl := int_iff.1 h1
  exact ⟨by simp, [], F2, [_], c2, rfl, rfl, ⟨rfl, rfl⟩, h2⟩
theorem fld_oStep_1 {tT : Nat} {n : Int} {z : Step} : ∀ (H : FH) (w : World) (G : List Nat) (cs : List Value), (oStep tT).rel H w G cs z → 1 < cs.length ∧ (oStep tT).rel H w G (cs.set 1 (.int .i64 n)) { z with a := n } := by
  rintro H w G cs ⟨F1, F2, c1, c2, rfl, rfl, ⟨rfl, h1⟩, F3, F4, c3, c4, rfl, rfl, ⟨rfl, h2⟩, h3⟩
  obtain rfl := int_iff.1 h1
  obtain rfl := int_iff.1 h2
  exact ⟨by simp, [], _, [_], _, rfl, rfl, ⟨rfl, rfl⟩, [], F4, [_], c4, rfl, rfl, ⟨rfl, rfl⟩, h3⟩
theorem fld_oStep_2 {tT : Nat} {n : Int} {z : Step} : ∀ (H : FH) (w : World) (G : List Nat) (cs : List Value), (oStep tT).rel H w G cs z → 2 < cs.length ∧ (oStep tT).rel H w G (cs.set 2 (.int .i64 n)) { z with b := n } := by
  rintro H w G cs ⟨F1, F2, c1, c2, rfl, rfl, ⟨rfl, h1⟩, F3, F4, c3, c4, rfl, rfl, ⟨rfl, h2⟩, F5, F6, c5, c6, rfl, rfl, ⟨rfl, h3⟩, h4⟩
  obtain rfl := int_iff.1 h1
  obtain rfl := int_iff.1 h2
  obtain rfl := int_iff.1 h3
  exact ⟨by simp, [], _, [_], _, rfl, rfl, ⟨rfl, rfl⟩, [], _, [_], _, rfl, rfl, ⟨rfl, rfl⟩, [], F6, [_], c6, rfl, rfl, ⟨rfl, rfl⟩, h4⟩
theorem fld_oStep_4 {tT : Nat} {n : Int} {z : Step} : ∀ (H : FH) (w : World) (G : List Nat) (cs : List Value), (oStep tT).rel H w G cs z → 4 < cs.length ∧ (oStep tT).rel H w G (cs.set 4 (.int .i64 n)) { z with given := { z.given with bound := n } } := by
  rintro H w G cs ⟨F1, F2, c1, c2, rfl, rfl, ⟨rfl, h1⟩, F3, F4, c3, c4, rfl, rfl, ⟨rfl, h2⟩, F5, F6, c5, c6, rfl, rfl, ⟨rfl, h3⟩, F7, F8, c7, c8, rfl, rfl, h4, rfl, h5⟩
  obtain rfl := int_iff.1 h1
  obtain rfl := int_iff.1 h2
  obtain rfl := int_iff.1 h3
  obtain rfl := int_iff.1 h5
  obtain ⟨v1, rfl⟩ := ownS1 h4
  exact ⟨by simp, [], _, [_], _, rfl, rfl, ⟨rfl, rfl⟩, [], _, [_], _, rfl, rfl, ⟨rfl, rfl⟩, [], _, [_], _, rfl, rfl, ⟨rfl, rfl⟩, F7, [], [v1], _, rfl, rfl, h4, rfl, rfl⟩
theorem fz_own {R : OR α} {cs : List Value} {x : α} {Bs : List Ass} {Hb : FH} (i : Nat) (h : ∀ A ∈ As, A.fz Hb) (hp : pick i As = some (own R cs x, Bs)) : R.r.rel Hb cs x := fz_get i h hp
theorem Star.keepN (n : Nat) (h : Star H w As) : Star H w (As.take n) := by
  have : Star H w (As.take n ++ As.drop n) := by rw [List.take_append_drop]; exact h
  exact this.take
def aggC (v : Value) (j : Nat) : Value := match v with | .agg cs => cs.getD j undef | _ => undef
def tupC (v : Value) (j : Nat) : Value := match v with | .tuple cs => cs.getD j undef | _ => undef
end
section
variable {P : Program} {N : Nat} {Q : Post} {f : Fr} {w : World} {ops : Array Oper} {rest : List Oper} {d : Nat} {ty : TypeId} {pos : String} {af : Array Edge} {gd : Option (Nat × Bool)}
variable {x y : Operand} {t e u : TypeId} {H : FH} {As Bs : List Ass} {g n : Nat} {xs : List Int} {k z : Int}
end
section
variable {δ ι : Type} {H : FH} {w : World} {As : List Ass} {f : δ → Nat → ι → List Ass}
end
end Go.E
