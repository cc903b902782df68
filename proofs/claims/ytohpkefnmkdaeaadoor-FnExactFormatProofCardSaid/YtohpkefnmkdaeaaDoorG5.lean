/- Rows: make, append, literals, elements; calls; function values. -/
import Derived.Test.YtohpkefnmkdaeaaDoorG4
import Derived.Laws.MakeOwn
import Derived.Lib.AppendZeros
namespace Go.E
open Go Go.RowKit
set_option linter.unusedVariables false
set_option linter.unusedSimpArgs false
structure ET (P : Program) (t e : TypeId) (n : Nat) : Prop where
  u : P.underlying t = some (.slice e)
  sz : ∀ w, (sizeOf e).run P w = .ok n w
  pos : 0 < n
  info : ∃ i z, P.info? e = some i ∧ i.zero = some z ∧ i.size = n ∧ i.bytes ≤ 128 ∧ z.cells.size = n
theorem et_of {P : Program} {t e : TypeId} {n : Nat} (hu : P.underlying t = some (.slice e)) (hn : 0 < n)
    (hi : (P.info? e).map (fun i => (i.zero.map (·.cells.size), i.size, Nat.ble i.bytes 128)) = some (some n, n, true)) : ET P t e n := by
  cases h : P.info? e with
  | none => rw [h] at hi; cases hi
  | some i =>
    rw [h] at hi
    simp only [Option.map_some, Option.some.injEq, Prod.mk.injEq] at hi
    obtain ⟨h1, h2, h3⟩ := hi
    cases hz : i.zero with
    | none => rw [hz] at h1; cases h1
    | some z =>
      rw [hz] at h1
      refine ⟨hu, fun w => by simp [sizeOf, typeInfo, h, h2], hn, i, z, h, hz, h2, Nat.le_of_ble_eq_true h3, by simpa using h1⟩
def app {α : Type} (xs ys : List α) : Option (List α) := if xs.length + ys.length ≤ 4294967296 then some (xs ++ ys) else none
def mkN {α : Type} (n : Int) (z : α) : Option (List α) := if 0 ≤ n ∧ n ≤ 4294967296 then some (List.replicate n.toNat z) else none
theorem mkN_some {α : Type} {n : Int} {z : α} {xs : List α} (h : mkN n z = some xs) : 0 ≤ n ∧ n ≤ 4294967296 ∧ xs = List.replicate n.toNat z := by
  unfold mkN at h
  split at h
  · rename_i hl; exact ⟨hl.1, hl.2, by injection h with h; exact h.symm⟩
  · cases h
theorem maxLen_eq : maxLen = 9223372036854775807 := rfl
theorem slice_len {H : FH} {α : Type} {r : RP α} {t : TypeId} {v : Value} {xs : List α} (h : (RP.slice t r).rel H [v] xs) : ∃ base cap, v = .slice base xs.length cap ∧ xs.length ≤ cap ∧ cap ≤ maxLen := by
  obtain ⟨base, cap, hv, h1, h2, _⟩ := h
  exact ⟨base, cap, by simpa using hv, h1, h2⟩
theorem slice_nil {H : FH} {α : Type} {r : RP α} {t : TypeId} (a : Option Addr) (c : Nat) (hc : c ≤ maxLen) : (RP.slice t r).rel H [.slice a 0 c] [] :=
  ⟨a, c, rfl, Nat.zero_le _, hc, fun h => absurd rfl h⟩
theorem rel_nil {α : Type} (r : RP α) (t : TypeId) (H : FH) : (RP.slice t r).rel H [.slice none 0 0] [] := slice_nil _ _ (by simp)
section own
variable {H : FH} {w : World} {F : List Nat} {α : Type} {R : OR α} {e : TypeId} {v : Value} {xs : List α} {As Bs : List Ass}
theorem own_len (h : (OR.ownS e R).rel H w F [v] xs) : ∃ base cap, v = .slice base xs.length cap ∧ xs.length ≤ cap ∧ cap ≤ maxLen := by
  rcases h with ⟨h, rfl, _⟩ | ⟨g, cap, c, Fs, h, hb, h1, h2, _⟩
  · exact ⟨none, 0, by simpa using h, Nat.le_refl _, by simp⟩
  · exact ⟨_, cap, by simpa using h, h1, h2⟩
theorem Star.len (i : Nat) (h : Star H w As) (hp : pick i As = some (own (OR.ownS e R) [v] xs, Bs)) : ∃ base cap, v = .slice base xs.length cap ∧ xs.length ≤ cap ∧ cap ≤ maxLen := by
  obtain ⟨F, hF⟩ := (h.get i hp).one
  exact own_len hF
theorem Star.row (i : Nat) {k : Int} {z : α} (h : Star H w As) (hp : pick i As = some (own (OR.ownS e R) [v] xs, Bs)) (hk : idx xs k = some z) : ∃ g cap, v = .slice (some ⟨g, 0, none⟩) xs.length cap ∧ xs.length ≤ cap ∧ cap ≤ maxLen := by
  obtain ⟨F, hF⟩ := (h.get i hp).one
  rcases hF with ⟨_, rfl, _⟩ | ⟨g, cap, c, Fs, h, hb, h1, h2, _⟩
  · have := (idx_some hk).2.2; simp at this
  · exact ⟨g, cap, by simpa using h, h1, h2⟩
theorem Star.elt (i : Nat) {k : Int} {z : α} {g cap len : Nat} (h : Star H w As) (hp : pick i As = some (own (OR.ownS e R) [v] xs, Bs)) (hv : v = .slice (some ⟨g, 0, none⟩) len cap) (hk : idx xs k = some z) :
    ∃ G cs, R.rel H w G cs z ∧ At w g (k.toNat * R.r.n) cs := by
  obtain ⟨F, hF⟩ := (h.get i hp).one
  obtain ⟨h0, hz, hlt⟩ := idx_some hk
  rcases hF with ⟨_, rfl, _⟩ | ⟨g', cap', c, Fs, hv', hb, h1, h2, h3, hF, he⟩
  · simp at hlt
  · subst hv
    simp at hv'
    obtain ⟨rfl, _⟩ := hv'
    obtain ⟨G, cs, _, hr, hj⟩ := he.get hz
    exact ⟨G, cs, hr, c, e, _, hb, hj⟩
theorem Star.eltF {r : RP α} (i : Nat) {k : Int} {z : α} {g cap len : Nat} (h : Star H w As) (hp : pick i As = some (own (OR.ownS e (OR.frz r)) [v] xs, Bs)) (hv : v = .slice (some ⟨g, 0, none⟩) len cap) (hk : idx xs k = some z) :
    ∃ cs, r.rel H cs z ∧ At w g (k.toNat * r.n) cs := by
  obtain ⟨G, cs, h1, h2⟩ := h.elt i hp hv hk
  exact ⟨cs, h1.2, h2⟩
end own
theorem Star.updL {H : FH} {w : World} {C As : List Ass} (h : Star H w (C ++ As)) : Sub H w ∧ ∃ F, SepL C H w F ∧ F.Nodup ∧ (∀ b ∈ F, H.m b = none ∧ b < w.heap.size) ∧
    ∀ {H' w' B}, Le H H' → Sub H' w' → (∀ b, b < w.heap.size → b ∉ F → w'.heap[b]? = w.heap[b]?) → (∀ b o, H'.m b = some o → H.m b = some o ∨ b ∈ F ∨ w.heap.size ≤ b) →
      (∃ F', SepL B H' w' F' ∧ F'.Nodup ∧ ∀ b ∈ F', (b ∈ F ∨ w.heap.size ≤ b) ∧ H'.m b = none) → Star H' w' (B ++ As) := by
  let A : Ass := ⟨SepL C, fun _ => True, fun h k => SepL.mono h k, fun h k => SepL.loc h k, fun h => SepL.lt h, fun _ _ _ => trivial⟩
  have h2 : Star H w (A :: As) := by
    obtain ⟨hs, F, hC, hn, hm⟩ := h
    obtain ⟨F1, F2, rfl, h1, h2⟩ := SepL.split hC
    exact ⟨hs, F1 ++ F2, ⟨F1, F2, rfl, h1, h2⟩, hn, hm⟩
  exact h2.upd
section app
variable {P : Program} {H : FH} {w : World} {α : Type} {R : OR α} {t e : TypeId} {v u : Value} {xs ys : List α} {F : List Nat}
end app
section rules
variable {P : Program} {N : Nat} {Q : Post} {f : Fr} {w : World} {ops : Array Oper} {rest : List Oper} {d : Nat} {ty : TypeId} {pos : String} {af : Array Edge} {gd : Option (Nat × Bool)}
variable {x y : Operand} {v : Value} {H : FH} {As Bs : List Ass}
theorem L_len {n : Nat} {t e : TypeId} (hk : ok1 ops f N d gd = true) (hu : P.underlying t = some (.slice e)) (hx : ev f x = v) (hs : ∃ base cap, v = .slice base n cap ∧ n ≤ cap ∧ cap ≤ maxLen)
    (h : L P N ops rest Q (upd f d (.int .i64 (n : Int))) w) : L P N ops (⟨some d, .call ⟨.builtin .len, #[x], #[t]⟩, ty, pos, af, gd⟩ :: rest) Q f w := by
  obtain ⟨base, cap, hv, _⟩ := hs
  exact L_pure hk (by simp [execOp, resolve, invoke, builtin, Builtin.len_, hx, hv, run_underlying hu, goInt]) h
theorem L_box {t : TypeId} {cs : Array Value} (hk : ok1 ops f N d gd = true) (hx : ev f x = v) (hc : v.cells = cs) (hst : Star H w As)
    (h : ∀ g w', Star H w' (box g t cs :: As) → L P N ops rest Q (upd f d (.pointer (some ⟨g, 0, none⟩))) w') : L P N ops (⟨some d, .box t x, ty, pos, af, gd⟩ :: rest) Q f w :=
  L_pure hk (by subst hc; simp [execOp, hx, Instr.box, newVar, newRow]) (h _ _ hst.alloc)
theorem L_al {t : TypeId} {z : Value} {cs : Array Value} (hk : ok1 ops f N d gd = true) (hz : ∀ w, (zeroValue t).run P w = .ok z w) (hc : z.cells = cs) (hst : Star H w As)
    (h : ∀ g w', Star H w' (box g t cs :: As) → L P N ops rest Q (upd f d (.pointer (some ⟨g, 0, none⟩))) w') : L P N ops (⟨some d, .alloc t, ty, pos, af, gd⟩ :: rest) Q f w :=
  L_pure hk (by subst hc; simp [execOp, Instr.alloc, hz, newVar, newRow]) (h _ _ hst.alloc)
theorem L_bs {t e : TypeId} {n : Nat} {parts : Array (Nat × Operand)} {vs : Array (Nat × Value)} {cs : Array Value} (hk : ok1 ops f N d gd = true) (hp : parts.map (fun p => (p.1, ev f p.2)) = vs)
    (hb : ∀ w, (Instr.buildSlice t n vs).run P w = .ok (.slice (some ⟨w.heap.size, 0, none⟩) n n) (w.alloc (.cells cs e))) (hst : Star H w As)
    (h : ∀ g w', Star H w' (box g e cs :: As) → L P N ops rest Q (upd f d (.slice (some ⟨g, 0, none⟩) n n)) w') : L P N ops (⟨some d, .buildSlice t n parts, ty, pos, af, gd⟩ :: rest) Q f w :=
  L_pure hk (by simp only [execOp, hp, Sem.run_bind, hb]; rfl) (h _ _ hst.alloc)
def ownL {α : Type} (R : OR α) (els : List (List Value × α)) : List Ass := els.map fun p => own R p.1 p.2
theorem sep_ownL {α : Type} {R : OR α} : ∀ {els : List (List Value × α)} {F : List Nat}, SepL (ownL R els) H w F → ∃ Fs : List (List Nat), F = List.flatten Fs ∧ Fs.length = els.length ∧ ∀ (i : Nat) (p : List Value × α) (G : List Nat), els[i]? = some p → Fs[i]? = some G → R.rel H w G p.1 p.2
  | [], F, h => ⟨[], h, rfl, by simp⟩
  | p :: els, F, ⟨F1, F2, hF, h1, h2⟩ => by
    obtain ⟨Fs, k1, k2, k3⟩ := sep_ownL h2
    refine ⟨F1 :: Fs, by rw [hF, k1]; rfl, by simp [k2], fun i q G hi hG => ?_⟩
    cases i with
    | zero => simp at hi hG; subst hi hG; exact h1
    | succ i => exact k3 i q G (by simpa using hi) (by simpa using hG)
theorem flat_get {n : Nat} : ∀ {css : List (List Value)} {i j : Nat} {c : List Value} {v : Value}, (∀ c ∈ css, c.length = n) → css[i]? = some c → c[j]? = some v → css.flatten[i * n + j]? = some v
  | [], i, j, c, v, _, h, _ => by simp at h
  | d :: css, 0, j, c, v, hl, h, hj => by
    simp at h
    subst h
    have hlt := (List.getElem?_eq_some_iff.1 hj).1
    rw [List.flatten_cons, Nat.zero_mul, Nat.zero_add, List.getElem?_append_left hlt]
    exact hj
  | d :: css, i + 1, j, c, v, hl, h, hj => by
    have hd := hl d (by simp)
    rw [List.flatten_cons, List.getElem?_append_right (by rw [hd, Nat.add_mul]; omega)]
    have := flat_get (css := css) (i := i) (j := j) (fun c hc => hl c (by simp [hc])) (by simpa using h) hj
    rw [hd, show (i + 1) * n + j - n = i * n + j from by rw [Nat.add_mul]; omega]
    exact this
theorem flat_len {n : Nat} : ∀ {l : List (List Value)}, (∀ c ∈ l, c.length = n) → l.flatten.length = l.length * n
  | [], _ => by simp
  | d :: l, h => by rw [List.flatten_cons, List.length_append, h d (by simp), flat_len fun c hc => h c (by simp [hc]), List.length_cons, Nat.add_mul]; omega
theorem Star.mkRow {α : Type} {R : OR α} {e : TypeId} {g : Nat} {cs : Array Value} (els : List (List Value × α)) (xs : List α) (n : Nat) (h : Star H w (ownL R els ++ (box g e cs :: As))) (hc : cs.toList = (els.map (·.1)).flatten) (hxs : els.map (·.2) = xs) (hn : xs.length = n) (hm : n ≤ maxLen) :
    Star H w (own (OR.ownS e R) [.slice (some ⟨g, 0, none⟩) n n] xs :: As) := by
  have h2 : Star H w ((ownL R els ++ [box g e cs]) ++ As) := by simpa using h
  refine h2.convL (B := [_]) fun F hF => ?_
  obtain ⟨F1, F2, rfl, h1, hb⟩ := SepL.split hF
  obtain ⟨G1, G2, rfl, ⟨rfl, hb⟩, hG2⟩ := hb
  have hG2 : G2 = [] := hG2
  subst hG2
  obtain ⟨Fs, rfl, hl, hr⟩ := sep_ownL h1
  have hll : els.length = n := by rw [← hn, ← hxs, List.length_map]
  have hget : ∀ i, i < els.length → ∃ (p : List Value × α) (G : List Nat), els[i]? = some p ∧ Fs[i]? = some G ∧ R.rel H w G p.1 p.2 := fun i hi =>
    ⟨_, _, List.getElem?_eq_getElem hi, List.getElem?_eq_getElem (by omega), hr i _ _ (List.getElem?_eq_getElem hi) (List.getElem?_eq_getElem (by omega))⟩
  have hlen : ∀ c ∈ els.map (·.1), c.length = R.r.n := by
    intro c hc
    obtain ⟨p, hp, rfl⟩ := List.mem_map.1 hc
    obtain ⟨i, hi⟩ := List.getElem?_of_mem hp
    obtain ⟨p', G, h3, _, h5⟩ := hget i (List.getElem?_eq_some_iff.1 hi).1
    rw [hi] at h3; injection h3 with h3; subst h3
    exact R.len h5
  have hsz : cs.size = n * R.r.n := by
    have := flat_len hlen
    rw [← hc, List.length_map, hll] at this
    simpa using this
  refine ⟨g :: List.flatten Fs, ⟨_, [], by simp, .inr ⟨g, n, cs, Fs, by rw [hn], hb, by omega, hm, hsz, rfl, by rw [hl, hll, hn], fun i x G hi hG => ?_⟩, rfl⟩, ?_⟩
  · have hil : i < els.length := by rw [hll, ← hn]; exact (List.getElem?_eq_some_iff.1 hi).1
    obtain ⟨p, G', h3, h4, h5⟩ := hget i hil
    rw [hG] at h4; injection h4 with h4; subst h4
    have hx : p.2 = x := by
      rw [← hxs, List.getElem?_map, h3] at hi
      simpa using hi
    refine ⟨p.1, hx ▸ h5, fun j v hj => ?_⟩
    have := flat_get (i := i) hlen (by rw [List.getElem?_map, h3]; rfl) hj
    rw [← hc] at this
    simpa using this
  · simpa using (List.perm_append_comm (l₁ := [g]) (l₂ := List.flatten Fs))
theorem L_mk {α : Type} {R : OR α} {t e : TypeId} {n : Int} {z0 : α} {zc : List Value} {xs : List α} (hk : ok1 ops f N d gd = true) (he : ET P t e R.r.n) (hz : ((P.info? e).bind (·.zero)).map (·.cells.toList) = some zc) (hrel : ∀ H w, R.rel H w [] zc z0)
    (hx : ev f x = .int .i64 n) (hy : ev f y = .int .i64 n) (hm : mkN n z0 = some xs) (hst : Star H w As)
    (h : ∀ v' w', Star H w' (own (OR.ownS e R) [v'] xs :: As) → L P N ops rest Q (upd f d v') w') : L P N ops (⟨some d, .makeSlice t x y, ty, pos, af, gd⟩ :: rest) Q f w := by
  obtain ⟨h0, h1, rfl⟩ := mkN_some hm
  obtain ⟨i, z, hi1, hi2, hi3, hi4, hi5⟩ := he.info
  have hzc : z.cells.toList = zc := by simpa [hi1, hi2] using hz
  have hb : (i.bytes : Int) * n ≤ 281474976710656 := by
    have h4 : i.bytes * n.toNat ≤ 128 * 4294967296 := Nat.mul_le_mul hi4 (by omega)
    have h5 : (i.bytes : Int) * n = ((i.bytes * n.toNat : Nat) : Int) := by rw [Int.natCast_mul, Int.toNat_of_nonneg h0]
    rw [h5]; omega
  have hr := run_make (P := P) w t e i z he.u hi1 hi2 .i64 .i64 n n h0 (Int.le_refl _) hb (by omega)
  refine L_pure (v := .slice (some ⟨w.heap.size, 0, none⟩) n.toNat n.toNat) (w' := w.alloc (.cells (madeCells z.cells (n.toNat * i.size)) e)) hk (by simp [execOp, hx, hy, hr]) (h _ _ ?_)
  have hst2 := hst.alloc (t := e) (cs := madeCells z.cells (n.toNat * i.size))
  refine hst2.conv (B := [_]) fun F ⟨hF, hblk⟩ => ?_
  subst hF
  refine ⟨_, ⟨w.heap.size :: List.flatten (List.replicate n.toNat []), [], (List.append_nil _).symm, .inr ⟨w.heap.size, n.toNat, _, List.replicate n.toNat [], by simp, hblk, by simp, by rw [maxLen_eq]; omega, ?_, rfl, by simp, fun k u G hu hG => ?_⟩, rfl⟩, ?_⟩
  · rw [size_madeCells, hi3]
  · rw [List.getElem?_replicate] at hu hG
    split at hu
    · rename_i hkl
      rw [if_pos hkl] at hG
      injection hu with hu
      injection hG with hG
      subst hu hG
      refine ⟨zc, hrel _ _, fun j v hj => ?_⟩
      have hjl : j < R.r.n := by have := (List.getElem?_eq_some_iff.1 hj).1; rw [R.len (hrel H w)] at this; exact this
      have hkj : k * R.r.n + j < n.toNat * i.size := by
        rw [hi3]
        have := Nat.mul_le_mul_right R.r.n (show k + 1 ≤ n.toNat from hkl)
        rw [Nat.add_mul] at this; omega
      have hmod : (k * R.r.n + j) % z.cells.size = j := by rw [hi5, Nat.mul_comm, Nat.mul_add_mod, Nat.mod_eq_of_lt hjl]
      unfold madeCells
      rw [Array.getElem?_map, Array.getElem?_range, if_pos hkj]
      simp only [Option.map_some, hmod]
      rw [← hzc] at hj
      have hj2 : z.cells[j]? = some v := by simpa using hj
      rw [getElem!_def, hj2]
    · cases hu
  · simp
end rules
end Go.E
