/- The program's data as Lean structures, and how each lies in cells; rows whose elements own rows. -/
import Derived.Test.YtohpkefnmkdaeaaGreatDoorG7
namespace Go.E
open Go Go.RowKit
set_option linter.unusedVariables false
set_option linter.unusedSimpArgs false
structure Rule where
  kind : Int
  vars : List Int
  coefs : List Int
  bound : Int
  rows : List (List Int)
  deriving DecidableEq
structure Model where
  sizes : List Int
  rules : List Rule
  deriving DecidableEq
theorem pair1 {α β : Type} {a : RP α} {b : RP β} (ha : a.n = 1) {H : FH} {cs : List Value} {p : α × β} :
    (RP.pair a b).rel H cs p ↔ ∃ v c2, cs = v :: c2 ∧ a.rel H [v] p.1 ∧ b.rel H c2 p.2 := by
  constructor
  · rintro ⟨c1, c2, rfl, h1, h2⟩
    have hl := a.len h1
    rw [ha] at hl
    match c1, hl with
    | [v], _ => exact ⟨v, c2, rfl, h1, h2⟩
  · rintro ⟨v, c2, rfl, h1, h2⟩
    exact ⟨[v], c2, rfl, h1, h2⟩
theorem int_iff {H : FH} {cs : List Value} {x : Int} : RP.int.rel H cs x ↔ cs = [.int .i64 x] := Iff.rfl
def rRule (ti tis : Nat) : RP Rule := RP.map (fun r => (r.kind, r.vars, r.coefs, r.bound, r.rows))
  (RP.pair RP.int (RP.pair (RP.slice ti RP.int) (RP.pair (RP.slice ti RP.int) (RP.pair RP.int (RP.slice tis (RP.slice ti RP.int))))))
section
variable {tT ti tis tr tC tB tS : Nat} {H : FH} {cs : List Value}
theorem rRule_iff {r : Rule} : (rRule ti tis).rel H cs r ↔ ∃ v1 v2 v3, cs = [.int .i64 r.kind, v1, v2, .int .i64 r.bound, v3] ∧ (RP.slice ti RP.int).rel H [v1] r.vars ∧
    (RP.slice ti RP.int).rel H [v2] r.coefs ∧ (RP.slice tis (RP.slice ti RP.int)).rel H [v3] r.rows := by
  show (RP.pair RP.int (RP.pair (RP.slice ti RP.int) (RP.pair (RP.slice ti RP.int) (RP.pair RP.int (RP.slice tis (RP.slice ti RP.int)))))).rel H cs (r.kind, r.vars, r.coefs, r.bound, r.rows) ↔ _
  simp only [pair1 (a := RP.int) rfl, pair1 (a := RP.slice ti RP.int) rfl]
  constructor
  · rintro ⟨v, c2, rfl, h1, v1, c3, rfl, h2, v2, c4, rfl, h3, v3, c5, rfl, h4, h5⟩
    rw [int_iff] at h1 h4
    simp at h1 h4
    obtain ⟨u, rfl, h6⟩ := slice1 h5
    exact ⟨v1, v2, u, by simp [h1, h4], h2, h3, h6⟩
  · rintro ⟨v1, v2, v3, rfl, h1, h2, h3⟩
    exact ⟨_, _, rfl, rfl, _, _, rfl, h1, _, _, rfl, h2, _, _, rfl, rfl, h3⟩
end
section rules
variable {P : Program} {N : Nat} {Q : Post} {f : Fr} {w : World} {ops : Array Oper} {rest : List Oper} {d : Nat} {ty : TypeId} {pos : String} {af : Array Edge} {gd : Option (Nat × Bool)}
variable {x y : Operand} {t u : TypeId} {b c : Bool} {x1 x2 y1 y2 : Int}
theorem L_bneq (hk : ok1 ops f N d gd = true) (hu : P.underlying t = some .bool) (hx : ev f x = .bool b) (hy : ev f y = .bool c) (h : L P N ops rest Q (upd f d (.bool (b != c))) w) :
    L P N ops (⟨some d, .binOp .neq t x y u, ty, pos, af, gd⟩ :: rest) Q f w :=
  L_pure hk (by simp [execOp, hx, hy, eqGuard, binOp, run_equal_bool, hu, bne]) h
end rules
def oRule (ti tis : Nat) : OR Rule := OR.map (fun r => (r.kind, r.vars, r.coefs, r.bound, r.rows))
  (OR.pair (OR.frz RP.int) (OR.pair (OR.ownS ti (OR.frz RP.int)) (OR.pair (OR.ownS ti (OR.frz RP.int)) (OR.pair (OR.frz RP.int) (OR.ownS tis (OR.ownS ti (OR.frz RP.int)))))))
theorem closed_int : (OR.frz RP.int).closed := OR.closed_frz RP.flat_int
theorem closed_str : (OR.frz RP.str).closed := OR.closed_frz RP.flat_str
theorem closed_oRule {ti tis : Nat} : (oRule ti tis).closed := OR.closed_map (OR.closed_pair closed_int (OR.closed_pair (OR.closed_ownS closed_int) (OR.closed_pair (OR.closed_ownS closed_int) (OR.closed_pair closed_int (OR.closed_ownS (OR.closed_ownS closed_int))))))
section
variable {H : FH} {w : World} {As : List Ass} {α β : Type}
theorem Star.unpair {a : OR α} {b : OR β} {cs : List Value} {p : α × β} (h : Star H w (own (OR.pair a b) cs p :: As)) : ∃ c1 c2, cs = c1 ++ c2 ∧ Star H w (own a c1 p.1 :: own b c2 p.2 :: As) := by
  obtain ⟨hs, F, ⟨F1, F2, rfl, ⟨G1, G2, c1, c2, rfl, rfl, h1, h2⟩, h3⟩, hn, hm⟩ := h
  exact ⟨c1, c2, rfl, hs, (G1 ++ G2) ++ F2, ⟨G1, G2 ++ F2, by simp, h1, G2, F2, rfl, h2, h3⟩, hn, hm⟩
theorem Star.pair {a : OR α} {b : OR β} {c1 c2 : List Value} {p : α × β} (h : Star H w (own a c1 p.1 :: own b c2 p.2 :: As)) : Star H w (own (OR.pair a b) (c1 ++ c2) p :: As) := by
  obtain ⟨hs, F, ⟨G1, F2, rfl, h1, G2, F3, rfl, h2, h3⟩, hn, hm⟩ := h
  exact ⟨hs, G1 ++ (G2 ++ F3), ⟨G1 ++ G2, F3, by simp, ⟨G1, G2, c1, c2, rfl, rfl, h1, h2⟩, h3⟩, hn, hm⟩
theorem Star.unF {r : RP α} {cs : List Value} {x : α} (h : Star H w (own (OR.frz r) cs x :: As)) : r.rel H cs x := by
  obtain ⟨F, hF⟩ := h.one
  exact hF.2
theorem own1 {R : OR α} {cs : List Value} {x : α} (hn : R.r.n = 1) (h : Star H w (own R cs x :: As)) : ∃ v, cs = [v] := by
  obtain ⟨F, hF⟩ := h.one
  have hl := R.len hF
  rw [hn] at hl
  match cs, hl with
  | [v], _ => exact ⟨v, rfl⟩
theorem oRule_open {ti tis : Nat} {cs : List Value} {r : Rule} (h : Star H w (own (oRule ti tis) cs r :: As)) : ∃ v1 v2 v3, cs = [.int .i64 r.kind, v1, v2, .int .i64 r.bound, v3] ∧
    Star H w (own (OR.ownS ti (OR.frz RP.int)) [v1] r.vars :: own (OR.ownS ti (OR.frz RP.int)) [v2] r.coefs :: own (OR.ownS tis (OR.ownS ti (OR.frz RP.int))) [v3] r.rows :: As) := by
  obtain ⟨c1, c2, rfl, k1⟩ := Star.unpair (p := (r.kind, r.vars, r.coefs, r.bound, r.rows)) h
  clear h
  obtain rfl := int_iff.1 k1.unF
  obtain ⟨c3, c4, rfl, k2⟩ := Star.unpair (k1.tail)
  clear k1
  obtain ⟨v1, rfl⟩ := own1 rfl k2
  obtain ⟨c5, c6, rfl, k3⟩ := Star.unpair (k2.get 1 rfl)
  clear k2
  obtain ⟨v2, rfl⟩ := own1 rfl k3
  obtain ⟨c7, c8, rfl, k4⟩ := Star.unpair (k3.get 1 rfl)
  clear k3
  obtain rfl := int_iff.1 k4.unF
  have k5 := k4.tail
  clear k4
  obtain ⟨v3, rfl⟩ := own1 rfl k5
  exact ⟨v1, v2, v3, rfl, ((k5.get 1 rfl).get 2 rfl)⟩
theorem oRule_close {ti tis : Nat} {v1 v2 v3 : Value} {r : Rule}
    (h : Star H w (own (OR.ownS ti (OR.frz RP.int)) [v1] r.vars :: own (OR.ownS ti (OR.frz RP.int)) [v2] r.coefs :: own (OR.ownS tis (OR.ownS ti (OR.frz RP.int))) [v3] r.rows :: As)) :
    Star H w (own (oRule ti tis) [.int .i64 r.kind, v1, v2, .int .i64 r.bound, v3] r :: As) := by
  have h1 := (h.get 2 rfl).addF (r := RP.int) (cs := [.int .i64 r.bound]) (x := r.bound) rfl
  have h2 := Star.pair (c1 := [.int .i64 r.bound]) (c2 := [v3]) (p := (r.bound, r.rows)) h1
  have h3 := Star.pair (c1 := [v2]) (c2 := [.int .i64 r.bound] ++ [v3]) (p := (r.coefs, r.bound, r.rows)) (h2.get 2 rfl)
  have h4 := Star.pair (c1 := [v1]) (c2 := [v2] ++ ([.int .i64 r.bound] ++ [v3])) (p := (r.vars, r.coefs, r.bound, r.rows)) (h3.get 1 rfl)
  have h5 := h4.addF (r := RP.int) (cs := [.int .i64 r.kind]) (x := r.kind) rfl
  exact Star.pair (c1 := [.int .i64 r.kind]) (p := (r.kind, r.vars, r.coefs, r.bound, r.rows)) h5
def hole (e : TypeId) (R : OR α) (v : Value) (xs : List α) (k : Nat) (cs : List Value) : Ass where
  p H w F := ∃ (g cap : Nat) (c : Array Value) (Fs : List (List Nat)), v = .slice (some ⟨g, 0, none⟩) xs.length cap ∧ Blk w g e c ∧ xs.length ≤ cap ∧ cap ≤ maxLen ∧ c.size = cap * R.r.n ∧ Fs.length = xs.length ∧ F = g :: (List.flatten (Fs.take k) ++ List.flatten (Fs.drop (k + 1))) ∧
    (∀ (i : Nat) (x : α) (G : List Nat), i ≠ k → xs[i]? = some x → Fs[i]? = some G → ∃ cs', R.rel H w G cs' x ∧ ∀ j v, cs'[j]? = some v → c[i * R.r.n + j]? = some v) ∧ ∀ j v, cs[j]? = some v → c[k * R.r.n + j]? = some v
  fz _ := True
  mono := by
    rintro H H' w F ⟨g, cap, c, Fs, hv, hb, g1, g2, g3, g4, hF, he, hk⟩ hl
    refine ⟨g, cap, c, Fs, hv, hb, g1, g2, g3, g4, hF, fun i x G hne hi hG => ?_, hk⟩
    obtain ⟨cs', hr, hj⟩ := he i x G hne hi hG
    exact ⟨cs', R.mono hr hl, hj⟩
  loc := by
    rintro H w w' F ⟨g, cap, c, Fs, hv, hb, g1, g2, g3, g4, rfl, he, hk⟩ hl
    refine ⟨g, cap, c, Fs, hv, (hl g (by simp)).trans hb, g1, g2, g3, g4, rfl, fun i x G hne hi hG => ?_, hk⟩
    obtain ⟨cs', hr, hj⟩ := he i x G hne hi hG
    refine ⟨cs', R.loc hr fun b hb => hl b (List.mem_cons_of_mem _ ?_), hj⟩
    rw [List.mem_append]
    rcases Nat.lt_or_gt_of_ne hne with h | h
    · exact .inl (List.mem_flatten.2 ⟨G, List.mem_of_getElem? (i := i) (by rw [List.getElem?_take_of_lt h]; exact hG), hb⟩)
    · exact .inr (List.mem_flatten.2 ⟨G, List.mem_of_getElem? (i := i - (k + 1)) (by rw [List.getElem?_drop, show k + 1 + (i - (k + 1)) = i from by omega]; exact hG), hb⟩)
  lt := by
    rintro H w F ⟨g, cap, c, Fs, hv, hb, g1, g2, g3, g4, rfl, he, hk⟩ b hbF
    rcases List.mem_cons.1 hbF with rfl | hbF
    · exact hb.lt
    · have hget : ∀ i, i < Fs.length → i ≠ k → ∀ b ∈ Fs[i]!, b < w.heap.size := by
        intro i hi hne b hb
        rw [List.getElem!_eq_getElem?_getD, List.getElem?_eq_getElem hi] at hb
        obtain ⟨cs', hr, _⟩ := he i _ _ hne (List.getElem?_eq_getElem (by omega)) (List.getElem?_eq_getElem hi)
        exact R.lt hr b hb
      rcases List.mem_append.1 hbF with h | h
      · obtain ⟨G, hG, hbG⟩ := List.mem_flatten.1 h
        obtain ⟨i, hi⟩ := List.getElem?_of_mem hG
        have hil := (List.getElem?_eq_some_iff.1 hi).1
        rw [List.length_take] at hil
        rw [List.getElem?_take_of_lt (by omega)] at hi
        refine hget i (by omega) (by omega) b ?_
        rw [List.getElem!_eq_getElem?_getD, hi]; exact hbG
      · obtain ⟨G, hG, hbG⟩ := List.mem_flatten.1 h
        obtain ⟨i, hi⟩ := List.getElem?_of_mem hG
        have hil := (List.getElem?_eq_some_iff.1 hi).1
        simp at hil
        rw [List.getElem?_drop] at hi
        refine hget (k + 1 + i) (by omega) (by omega) b ?_
        rw [List.getElem!_eq_getElem?_getD, hi]; exact hbG
  fzl _ _ _ := trivial
theorem flat_split {Fs : List (List Nat)} {k : Nat} (hk : k < Fs.length) : List.flatten Fs = List.flatten (Fs.take k) ++ (Fs[k] ++ List.flatten (Fs.drop (k + 1))) := by
  have hspl : Fs = Fs.take k ++ Fs[k] :: Fs.drop (k + 1) := by rw [List.getElem_cons_drop, List.take_append_drop]
  have h9 := congrArg List.flatten hspl
  rw [List.flatten_append, List.flatten_cons] at h9
  exact h9
theorem Star.focus {R : OR α} {e : TypeId} {v : Value} {xs : List α} {k : Int} {x : α} (h : Star H w (own (OR.ownS e R) [v] xs :: As)) (hk : idx xs k = some x) :
    ∃ cs, Star H w (own R cs x :: hole e R v xs k.toNat cs :: As) ∧ ∀ g cap len, v = .slice (some ⟨g, 0, none⟩) len cap → At w g (k.toNat * R.r.n) cs := by
  obtain ⟨_, hx, hlt⟩ := idx_some hk
  obtain ⟨hs, F, ⟨F1, F2, rfl, h1, h2⟩, hn, hm⟩ := h
  rcases h1 with ⟨_, rfl, _⟩ | ⟨g, cap, c, Fs, hv, hb, g1, g2, g3, rfl, he1, he2⟩
  · simp at hlt
  have hv : v = .slice (some ⟨g, 0, none⟩) xs.length cap := by simpa using hv
  have hkF : k.toNat < Fs.length := by omega
  obtain ⟨cs, hr, hj⟩ := he2 k.toNat x Fs[k.toNat] hx (List.getElem?_eq_getElem hkF)
  have hp : (Fs[k.toNat] ++ (g :: (List.flatten (Fs.take k.toNat) ++ List.flatten (Fs.drop (k.toNat + 1))) ++ F2)).Perm (g :: List.flatten Fs ++ F2) := by
    rw [flat_split hkF, ← List.append_assoc]
    refine List.Perm.append_right F2 ?_
    refine List.perm_append_comm.trans ?_
    rw [List.cons_append]
    refine List.Perm.cons g ?_
    rw [List.append_assoc]
    exact List.perm_append_comm.append_left _
  refine ⟨cs, ⟨hs, Fs[k.toNat] ++ (g :: (List.flatten (Fs.take k.toNat) ++ List.flatten (Fs.drop (k.toNat + 1))) ++ F2), ⟨_, _, rfl, hr, _, F2, rfl, ⟨g, cap, c, Fs, hv, hb, g1, g2, g3, he1, rfl, fun i x G _ hi hG => he2 i x G hi hG, hj⟩, h2⟩, hp.symm.nodup_iff.1 hn, fun b hb => hm b (hp.mem_iff.1 hb)⟩, fun g' cap' len' hv' => ?_⟩
  rw [hv] at hv'
  simp at hv'
  obtain ⟨rfl, _⟩ := hv'
  exact ⟨c, e, _, hb, hj⟩
theorem Star.unfocus {R : OR α} {e : TypeId} {v : Value} {xs : List α} {k : Nat} {x' : α} {cs : List Value} (hlt : k < xs.length) (h : Star H w (own R cs x' :: hole e R v xs k cs :: As)) : Star H w (own (OR.ownS e R) [v] (xs.set k x') :: As) := by
  have h' : Star H w ([own R cs x', hole e R v xs k cs] ++ As) := h
  refine h'.convL (B := [_]) fun F hF => ?_
  obtain ⟨G, F2, rfl, hr, F3, F4, rfl, ⟨g, cap, c, Fs, hv, hb, g1, g2, g3, g4, rfl, he, hk⟩, hF4⟩ := hF
  have hF4 : F4 = [] := hF4
  subst hF4
  rw [List.append_nil]
  have hkF : k < (Fs.set k G).length := by simp; omega
  refine ⟨g :: List.flatten (Fs.set k G), ⟨_, [], (List.append_nil _).symm, .inr ⟨g, cap, c, Fs.set k G, by simp [hv], hb, by simpa using g1, g2, g3, rfl, by simp [g4], fun i x G' hi hG => ?_⟩, rfl⟩, ?_⟩
  · rw [List.getElem?_set] at hi hG
    by_cases hik : k = i
    · subst hik
      rw [if_pos rfl, if_pos hlt] at hi
      rw [if_pos rfl, if_pos (by omega)] at hG
      injection hi with hi; injection hG with hG
      subst hi hG
      exact ⟨cs, hr, hk⟩
    · rw [if_neg hik] at hi hG
      exact he i x G' (Ne.symm hik) hi hG
  · rw [flat_split hkF]
    have e1 : (Fs.set k G).take k = Fs.take k := by rw [List.take_set_of_le (Nat.le_refl _)]
    have e2 : (Fs.set k G).drop (k + 1) = Fs.drop (k + 1) := by rw [List.drop_set_of_lt (Nat.lt_succ_self _)]
    have e3 : (Fs.set k G)[k] = G := by simp
    rw [e1, e2, e3]
    refine (List.Perm.cons g ?_).trans (List.perm_append_comm (l₁ := G) (l₂ := g :: _)).symm
    refine (List.perm_append_comm.append_left (List.flatten (Fs.take k))).trans ?_
    rw [← List.append_assoc]
    exact List.Perm.refl _
theorem ownS1 {R : OR α} {e : TypeId} {F : List Nat} {cs : List Value} {xs : List α} (h : (OR.ownS e R).rel H w F cs xs) : ∃ v, cs = [v] := by
  rcases h with ⟨h, _⟩ | ⟨_, _, _, _, h, _⟩ <;> exact ⟨_, h⟩
section
variable {P : Program} {N : Nat} {Q : Post} {f : Fr} {ops : Array Oper} {rest : List Oper} {ty : TypeId} {pos : String} {af : Array Edge} {gd : Option (Nat × Bool)} {x y : Operand}
end
theorem fld_oRule_0 {ti tis : Nat} {n : Int} {z : Rule} : ∀ (H : FH) (w : World) (G : List Nat) (cs : List Value), (oRule ti tis).rel H w G cs z → 0 < cs.length ∧ (oRule ti tis).rel H w G (cs.set 0 (.int .i64 n)) { z with kind := n } := by
  rintro H w G cs ⟨F1, F2, c1, c2, rfl, rfl, ⟨rfl, h1⟩, h2⟩
  obtain rfl := int_iff.1 h1
  exact ⟨by simp, [], F2, [_], c2, rfl, rfl, ⟨rfl, rfl⟩, h2⟩
theorem fld_oRule_3 {ti tis : Nat} {n : Int} {z : Rule} : ∀ (H : FH) (w : World) (G : List Nat) (cs : List Value), (oRule ti tis).rel H w G cs z → 3 < cs.length ∧ (oRule ti tis).rel H w G (cs.set 3 (.int .i64 n)) { z with bound := n } := by
  rintro H w G cs ⟨F1, F2, c1, c2, rfl, rfl, ⟨rfl, h1⟩, F3, F4, c3, c4, rfl, rfl, h2, F5, F6, c5, c6, rfl, rfl, h3, F7, F8, c7, c8, rfl, rfl, ⟨rfl, h4⟩, h5⟩
  obtain rfl := int_iff.1 h1
  obtain rfl := int_iff.1 h4
  obtain ⟨v1, rfl⟩ := ownS1 h2
  obtain ⟨v2, rfl⟩ := ownS1 h3
  exact ⟨by simp, [], _, [_], _, rfl, rfl, ⟨rfl, rfl⟩, F3, _, [v1], _, rfl, rfl, h2, F5, _, [v2], _, rfl, rfl, h3, [], F8, [_], c8, rfl, rfl, ⟨rfl, rfl⟩, h5⟩
theorem fz_own {R : OR α} {cs : List Value} {x : α} {Bs : List Ass} {Hb : FH} (i : Nat) (h : ∀ A ∈ As, A.fz Hb) (hp : pick i As = some (own R cs x, Bs)) : R.r.rel Hb cs x := fz_get i h hp
theorem fz_box {g t : Nat} {cs : Array Value} {Bs : List Ass} {Hb : FH} (i : Nat) (h : ∀ A ∈ As, A.fz Hb) (hp : pick i As = some (box g t cs, Bs)) : Hb.m g = some (.cells cs t (0, 0)) := fz_get i h hp
theorem Star.unboxV {v : Value} {t : TypeId} {cs : Array Value} (h : Star H w (boxV v t cs :: As)) : ∃ g, v = .pointer (some ⟨g, 0, none⟩) ∧ Star H w (box g t cs :: As) := by
  obtain ⟨hs, F, ⟨F1, F2, rfl, ⟨g, hv, hF, hb⟩, h2⟩, hn, hm⟩ := h
  exact ⟨g, hv, hs, F1 ++ F2, ⟨F1, F2, rfl, ⟨hF, hb⟩, h2⟩, hn, hm⟩
theorem Star.boxV {v : Value} {g : Nat} {t : TypeId} {cs : Array Value} (hv : v = .pointer (some ⟨g, 0, none⟩)) (h : Star H w (box g t cs :: As)) : Star H w (Go.E.boxV v t cs :: As) := by
  obtain ⟨hs, F, ⟨F1, F2, rfl, ⟨hF, hb⟩, h2⟩, hn, hm⟩ := h
  exact ⟨hs, F1 ++ F2, ⟨F1, F2, rfl, ⟨g, hv, hF, hb⟩, h2⟩, hn, hm⟩
theorem Star.keepN (n : Nat) (h : Star H w As) : Star H w (As.take n) := by
  have : Star H w (As.take n ++ As.drop n) := by rw [List.take_append_drop]; exact h
  exact this.take
def aggC (v : Value) (j : Nat) : Value := match v with | .agg cs => cs.getD j undef | _ => undef
end
section
variable {P : Program} {N : Nat} {Q : Post} {f : Fr} {w : World} {ops : Array Oper} {rest : List Oper} {d : Nat} {ty : TypeId} {pos : String} {af : Array Edge} {gd : Option (Nat × Bool)}
variable {x y : Operand} {t e u : TypeId} {H : FH} {As Bs : List Ass} {g n : Nat} {xs : List Int} {k z : Int}
end
section
variable {δ ι : Type} {H : FH} {w : World} {As : List Ass} {f : δ → Nat → ι → List Ass}
end
end Go.E
