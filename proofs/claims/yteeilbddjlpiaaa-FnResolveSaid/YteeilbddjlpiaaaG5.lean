/- Rows: make, append, literals, elements; calls; function values. -/
import Derived.Test.YteeilbddjlpiaaaG4
import Derived.Laws.MakeOwn
import Derived.Lib.AppendZeros
namespace Go.E
open Go Go.RowKit
set_option linter.unusedVariables false
set_option linter.unusedSimpArgs false
structure ET (P : Program) (t e : TypeId) (n : Nat) : Prop where
  u : P.underlying t = some (.slice e)
  sz : ∀ w, (sizeOf e).run P w = .ok n w
  pos : 0 < n
  info : ∃ i z, P.info? e = some i ∧ i.zero = some z ∧ i.size = n ∧ i.bytes ≤ 128 ∧ z.cells.size = n
theorem et_of {P : Program} {t e : TypeId} {n : Nat} (hu : P.underlying t = some (.slice e)) (hn : 0 < n)
    (hi : (P.info? e).map (fun i => (i.zero.map (·.cells.size), i.size, Nat.ble i.bytes 128)) = some (some n, n, true)) : ET P t e n := by
  cases h : P.info? e with
  | none => rw [h] at hi; cases hi
  | some i =>
    rw [h] at hi
    simp only [Option.map_some, Option.some.injEq, Prod.mk.injEq] at hi
    obtain ⟨h1, h2, h3⟩ := hi
    cases hz : i.zero with
    | none => rw [hz] at h1; cases h1
    | some z =>
      rw [hz] at h1
      refine ⟨hu, fun w => by simp [sizeOf, typeInfo, h, h2], hn, i, z, h, hz, h2, Nat.le_of_ble_eq_true h3, by simpa using h1⟩
def app {α : Type} (xs ys : List α) : Option (List α) := if xs.length + ys.length ≤ 4294967296 then some (xs ++ ys) else none
theorem app_some {α : Type} {xs ys zs : List α} (h : app xs ys = some zs) : xs.length + ys.length ≤ 4294967296 ∧ zs = xs ++ ys := by
  unfold app at h
  split at h
  · rename_i hl; exact ⟨hl, by injection h with h; exact h.symm⟩
  · cases h
def mkN {α : Type} (n : Int) (z : α) : Option (List α) := if 0 ≤ n ∧ n ≤ 4294967296 then some (List.replicate n.toNat z) else none
theorem mkN_some {α : Type} {n : Int} {z : α} {xs : List α} (h : mkN n z = some xs) : 0 ≤ n ∧ n ≤ 4294967296 ∧ xs = List.replicate n.toNat z := by
  unfold mkN at h
  split at h
  · rename_i hl; exact ⟨hl.1, hl.2, by injection h with h; exact h.symm⟩
  · cases h
def sl {α : Type} (xs : List α) (lo hi : Int) : Option (List α) := if 0 ≤ lo ∧ lo ≤ hi ∧ hi ≤ xs.length then some ((xs.take hi.toNat).drop lo.toNat) else none
theorem sl_some {α : Type} {xs ys : List α} {lo hi : Int} (h : sl xs lo hi = some ys) : 0 ≤ lo ∧ lo ≤ hi ∧ hi ≤ xs.length ∧ ys = (xs.take hi.toNat).drop lo.toNat := by
  unfold sl at h
  split at h
  · rename_i hl; exact ⟨hl.1, hl.2.1, hl.2.2, by injection h with h; exact h.symm⟩
  · cases h
theorem maxLen_eq : maxLen = 9223372036854775807 := rfl
theorem slice_len {H : FH} {α : Type} {r : RP α} {t : TypeId} {v : Value} {xs : List α} (h : (RP.slice t r).rel H [v] xs) : ∃ base cap, v = .slice base xs.length cap ∧ xs.length ≤ cap ∧ cap ≤ maxLen := by
  obtain ⟨base, cap, hv, h1, h2, _⟩ := h
  exact ⟨base, cap, by simpa using hv, h1, h2⟩
theorem slice_nil {H : FH} {α : Type} {r : RP α} {t : TypeId} (a : Option Addr) (c : Nat) (hc : c ≤ maxLen) : (RP.slice t r).rel H [.slice a 0 c] [] :=
  ⟨a, c, rfl, Nat.zero_le _, hc, fun h => absurd rfl h⟩
theorem rel_nil {α : Type} (r : RP α) (t : TypeId) (H : FH) : (RP.slice t r).rel H [.slice none 0 0] [] := slice_nil _ _ (by simp)
theorem slice1 {H : FH} {α : Type} {r : RP α} {t : TypeId} {cs : List Value} {xs : List α} (h : (RP.slice t r).rel H cs xs) : ∃ v, cs = [v] ∧ (RP.slice t r).rel H [v] xs := by
  have hl := (RP.slice t r).len h
  match cs, hl with
  | [v], _ => exact ⟨v, rfl, h⟩
section own
variable {H : FH} {w : World} {F : List Nat} {α : Type} {R : OR α} {e : TypeId} {v : Value} {xs : List α} {As Bs : List Ass}
theorem own_len (h : (OR.ownS e R).rel H w F [v] xs) : ∃ base cap, v = .slice base xs.length cap ∧ xs.length ≤ cap ∧ cap ≤ maxLen := by
  rcases h with ⟨h, rfl, _⟩ | ⟨g, cap, c, Fs, h, hb, h1, h2, _⟩
  · exact ⟨none, 0, by simpa using h, Nat.le_refl _, by simp⟩
  · exact ⟨_, cap, by simpa using h, h1, h2⟩
theorem Star.len (i : Nat) (h : Star H w As) (hp : pick i As = some (own (OR.ownS e R) [v] xs, Bs)) : ∃ base cap, v = .slice base xs.length cap ∧ xs.length ≤ cap ∧ cap ≤ maxLen := by
  obtain ⟨F, hF⟩ := (h.get i hp).one
  exact own_len hF
theorem Star.row (i : Nat) {k : Int} {z : α} (h : Star H w As) (hp : pick i As = some (own (OR.ownS e R) [v] xs, Bs)) (hk : idx xs k = some z) : ∃ g cap, v = .slice (some ⟨g, 0, none⟩) xs.length cap ∧ xs.length ≤ cap ∧ cap ≤ maxLen := by
  obtain ⟨F, hF⟩ := (h.get i hp).one
  rcases hF with ⟨_, rfl, _⟩ | ⟨g, cap, c, Fs, h, hb, h1, h2, _⟩
  · have := (idx_some hk).2.2; simp at this
  · exact ⟨g, cap, by simpa using h, h1, h2⟩
theorem Star.elt (i : Nat) {k : Int} {z : α} {g cap len : Nat} (h : Star H w As) (hp : pick i As = some (own (OR.ownS e R) [v] xs, Bs)) (hv : v = .slice (some ⟨g, 0, none⟩) len cap) (hk : idx xs k = some z) :
    ∃ G cs, R.rel H w G cs z ∧ At w g (k.toNat * R.r.n) cs := by
  obtain ⟨F, hF⟩ := (h.get i hp).one
  obtain ⟨h0, hz, hlt⟩ := idx_some hk
  rcases hF with ⟨_, rfl, _⟩ | ⟨g', cap', c, Fs, hv', hb, h1, h2, h3, hF, he⟩
  · simp at hlt
  · subst hv
    simp at hv'
    obtain ⟨rfl, _⟩ := hv'
    obtain ⟨G, cs, _, hr, hj⟩ := he.get hz
    exact ⟨G, cs, hr, c, e, _, hb, hj⟩
theorem Star.eltF {r : RP α} (i : Nat) {k : Int} {z : α} {g cap len : Nat} (h : Star H w As) (hp : pick i As = some (own (OR.ownS e (OR.frz r)) [v] xs, Bs)) (hv : v = .slice (some ⟨g, 0, none⟩) len cap) (hk : idx xs k = some z) :
    ∃ cs, r.rel H cs z ∧ At w g (k.toNat * r.n) cs := by
  obtain ⟨G, cs, h1, h2⟩ := h.elt i hp hv hk
  exact ⟨cs, h1.2, h2⟩
end own
theorem Star.updL {H : FH} {w : World} {C As : List Ass} (h : Star H w (C ++ As)) : Sub H w ∧ ∃ F, SepL C H w F ∧ F.Nodup ∧ (∀ b ∈ F, H.m b = none ∧ b < w.heap.size) ∧
    ∀ {H' w' B}, Le H H' → Sub H' w' → (∀ b, b < w.heap.size → b ∉ F → w'.heap[b]? = w.heap[b]?) → (∀ b o, H'.m b = some o → H.m b = some o ∨ b ∈ F ∨ w.heap.size ≤ b) →
      (∃ F', SepL B H' w' F' ∧ F'.Nodup ∧ ∀ b ∈ F', (b ∈ F ∨ w.heap.size ≤ b) ∧ H'.m b = none) → Star H' w' (B ++ As) := by
  let A : Ass := ⟨SepL C, fun _ => True, fun h k => SepL.mono h k, fun h k => SepL.loc h k, fun h => SepL.lt h, fun _ _ _ => trivial⟩
  have h2 : Star H w (A :: As) := by
    obtain ⟨hs, F, hC, hn, hm⟩ := h
    obtain ⟨F1, F2, rfl, h1, h2⟩ := SepL.split hC
    exact ⟨hs, F1 ++ F2, ⟨F1, F2, rfl, h1, h2⟩, hn, hm⟩
  exact h2.upd
structure SrcV (w : World) (n : Nat) (u : Value) (m : Nat) (news : List Value) : Prop where
  len : ∃ base cap, u = .slice base m cap
  cells : m ≠ 0 → ∃ g o c, u = .slice (some ⟨g, o, none⟩) m c ∧ ∀ j v, news[j]? = some v → w.cell? ⟨g, o + j, none⟩ = some v
  nl : news.length = m * n
  one : ∀ v ∈ news, v.oneCell' = true
theorem cells_of {α : Type} {n o : Nat} {c : Array Value} : ∀ (ys : List α) (k : Nat) (css : Nat → List Value), (∀ i, i < ys.length → (css i).length = n ∧ ∀ j v, (css i)[j]? = some v → c[o + (k + i) * n + j]? = some v) →
    ∃ news : List Value, news.length = ys.length * n ∧ (∀ j v, news[j]? = some v → c[o + k * n + j]? = some v) ∧ (∀ i j v, i < ys.length → (css i)[j]? = some v → news[i * n + j]? = some v) ∧ (∀ v ∈ news, ∃ i, i < ys.length ∧ v ∈ css i)
  | [], _, _, _ => ⟨[], by simp, by simp, by simp, by simp⟩
  | y :: ys, k, css, h => by
    obtain ⟨news, h1, h2, h3, h4⟩ := cells_of ys (k + 1) (fun i => css (i + 1)) fun i hi => by
      have := h (i + 1) (by simp; omega)
      rwa [show k + (i + 1) = k + 1 + i from by omega] at this
    obtain ⟨h5, h6⟩ := h 0 (by simp)
    refine ⟨css 0 ++ news, by simp [h1, h5, Nat.add_mul]; omega, fun j v hj => ?_, fun i j v hi hj => ?_, fun v hv => ?_⟩
    · rcases Nat.lt_or_ge j (css 0).length with hl | hl
      · rw [List.getElem?_append_left hl] at hj
        simpa using h6 j v hj
      · rw [List.getElem?_append_right hl, h5] at hj
        have := h2 _ v hj
        rwa [show o + (k + 1) * n + (j - n) = o + k * n + j from by rw [Nat.add_mul]; omega] at this
    · cases i with
      | zero => rw [Nat.zero_mul, Nat.zero_add, List.getElem?_append_left (List.getElem?_eq_some_iff.1 hj).1]; exact hj
      | succ i =>
        have := h3 i j v (by simpa using hi) hj
        rw [List.getElem?_append_right (by rw [h5, Nat.add_mul]; omega), h5]
        rwa [show (i + 1) * n + j - n = i * n + j from by rw [Nat.add_mul]; omega]
    · rcases List.mem_append.1 hv with hv | hv
      · exact ⟨0, by simp, hv⟩
      · obtain ⟨i, hi, hm⟩ := h4 v hv
        exact ⟨i + 1, by simp; omega, hm⟩
open Classical in
theorem choose_cells {α : Type} {ys : List α} {Q : α → List Value → Nat → Prop} (h : ∀ i y, ys[i]? = some y → ∃ cs, Q y cs i) : ∃ css : Nat → List Value, ∀ i y, ys[i]? = some y → Q y (css i) i :=
  ⟨fun i => if hx : ∃ y cs, ys[i]? = some y ∧ Q y cs i then hx.choose_spec.choose else [], fun i y hi => by
    obtain ⟨cs, hc⟩ := h i y hi
    have hx : ∃ y cs, ys[i]? = some y ∧ Q y cs i := ⟨y, cs, hi, hc⟩
    dsimp only
    rw [dif_pos hx]
    obtain ⟨h1, h2⟩ := hx.choose_spec.choose_spec
    exact (fun {c : List Value} (y' : α) (h1 : ys[i]? = some y') (h2 : Q y' c i) => (by rw [hi] at h1; injection h1 with h1; subst h1; exact h2 : Q y c i)) _ h1 h2⟩
theorem src_rel {H : FH} {w : World} {α : Type} {r : RP α} {t : TypeId} {u : Value} {ys : List α} (hs : Sub H w) (h : (RP.slice t r).rel H [u] ys) : ∃ news, SrcV w r.n u ys.length news ∧
    ∀ i z, ys[i]? = some z → ∃ cs', r.rel H cs' z ∧ ∀ j v, cs'[j]? = some v → news[i * r.n + j]? = some v := by
  obtain ⟨base, cap, hv, h1, h2, h3⟩ := h
  have hv : u = .slice base ys.length cap := by simpa using hv
  by_cases hy : ys = []
  · subst hy
    exact ⟨[], ⟨⟨base, cap, hv⟩, fun h => absurd rfl h, by simp, by simp⟩, by simp⟩
  obtain ⟨g, o, c, t', fz, rfl, hc, he⟩ := h3 hy
  obtain ⟨css, hcss⟩ := choose_cells he
  have hget : ∀ i, i < ys.length → ∃ y, ys[i]? = some y := fun i hi => ⟨_, List.getElem?_eq_getElem hi⟩
  obtain ⟨news, n1, n2, n3, n4⟩ := cells_of (o := o) (c := c) (n := r.n) ys 0 css fun i hi => by
    obtain ⟨y, hy⟩ := hget i hi
    obtain ⟨a, b⟩ := hcss i y hy
    exact ⟨r.len a, fun j v hj => by rw [Nat.zero_add]; exact b j v hj⟩
  refine ⟨news, ⟨⟨_, cap, hv⟩, fun _ => ⟨g, o, cap, hv, fun j v hj => ?_⟩, n1, fun v hv => ?_⟩, fun i z hz => ?_⟩
  · have := n2 j v hj
    simp at this
    simp [World.cell?, hs.2 _ _ hc, this]
  · obtain ⟨i, hi, hm⟩ := n4 v hv
    obtain ⟨y, hy⟩ := hget i hi
    exact r.one (hcss i y hy).1 v hm
  · exact ⟨css i, (hcss i z hz).1, fun j v hj => n3 i j v (List.getElem?_eq_some_iff.1 hz).1 hj⟩
theorem src_own {H : FH} {w : World} {F : List Nat} {α : Type} {R : OR α} {e : TypeId} {u : Value} {ys : List α} (h : (OR.ownS e R).rel H w F [u] ys) : ∃ news Gs, SrcV w R.r.n u ys.length news ∧ Gs.length = ys.length ∧
    (∀ i z G, ys[i]? = some z → Gs[i]? = some G → ∃ cs', R.rel H w G cs' z ∧ ∀ j v, cs'[j]? = some v → news[i * R.r.n + j]? = some v) ∧ (F = [] ∧ ys = [] ∨ ∃ g, F = g :: List.flatten Gs) := by
  rcases h with ⟨h, rfl, rfl⟩ | ⟨g, cap, c, Gs, hv, hb, h1, h2, h3, rfl, he1, he2⟩
  · exact ⟨[], [], ⟨⟨none, 0, by simpa using h⟩, fun h => absurd rfl h, by simp, by simp⟩, rfl, by simp, .inl ⟨rfl, rfl⟩⟩
  have hv : u = .slice (some ⟨g, 0, none⟩) ys.length cap := by simpa using hv
  have he : OR.Els R H w c ys Gs := ⟨he1, he2⟩
  obtain ⟨css, hcss⟩ := choose_cells (ys := ys) (Q := fun y cs i => ∃ G, Gs[i]? = some G ∧ R.rel H w G cs y ∧ ∀ j v, cs[j]? = some v → c[i * R.r.n + j]? = some v) fun i y hi => by
    obtain ⟨G, cs, a, b, d⟩ := he.get hi
    exact ⟨cs, G, a, b, d⟩
  have hget : ∀ i, i < ys.length → ∃ y, ys[i]? = some y := fun i hi => ⟨_, List.getElem?_eq_getElem hi⟩
  obtain ⟨news, n1, n2, n3, n4⟩ := cells_of (o := 0) (c := c) (n := R.r.n) ys 0 css fun i hi => by
    obtain ⟨y, hy⟩ := hget i hi
    obtain ⟨G, _, a, b⟩ := hcss i y hy
    exact ⟨R.len a, fun j v hj => by rw [Nat.zero_add, Nat.zero_add]; exact b j v hj⟩
  refine ⟨news, Gs, ⟨⟨_, cap, hv⟩, fun _ => ⟨g, 0, cap, hv, fun j v hj => ?_⟩, n1, fun v hv => ?_⟩, he1, fun i z G hz hG => ?_, .inr ⟨g, rfl⟩⟩
  · have := n2 j v hj
    simp at this
    unfold Blk at hb
    simp [World.cell?, hb, this]
  · obtain ⟨i, hi, hm⟩ := n4 v hv
    obtain ⟨y, hy⟩ := hget i hi
    obtain ⟨G, _, a, _⟩ := hcss i y hy
    exact R.one a v hm
  · obtain ⟨G', hG', a, b⟩ := hcss i z hz
    rw [hG] at hG'; injection hG' with hG'; subst hG'
    exact ⟨css i, a, fun j v hj => n3 i j v (List.getElem?_eq_some_iff.1 hz).1 hj⟩
section app
variable {P : Program} {H : FH} {w : World} {α : Type} {R : OR α} {t e : TypeId} {v u : Value} {xs ys : List α} {F : List Nat}
theorem run_app {news : List Value} {Gs : List (List Nat)} {ty : TypeId} (he : ET P t e R.r.n) (hF : (OR.ownS e R).rel H w F [v] xs) (hFn : F.Nodup) (hsrc : SrcV w R.r.n u ys.length news) (hGl : Gs.length = ys.length)
    (hG : ∀ i z G, ys[i]? = some z → Gs[i]? = some G → ∃ cs', R.rel H w G cs' z ∧ ∀ j v, cs'[j]? = some v → news[i * R.r.n + j]? = some v) (hdis : ∀ b ∈ F, b ∉ List.flatten Gs)
    (hlen : xs.length + ys.length ≤ 4294967296) :
    ∃ v' w', (Builtin.append_ #[t, t] ty #[v, u]).run P w = .ok v' w' ∧ Below 0 w w' ∧ (∀ b, b < w.heap.size → b ∉ F → w'.heap[b]? = w.heap[b]?) ∧
      ∃ F', (OR.ownS e R).rel H w' F' [v'] (xs ++ ys) ∧ ((F.Nodup → (List.flatten Gs).Nodup → F'.Nodup) ∧ ∀ b ∈ F', b ∈ F ∨ b ∈ List.flatten Gs ∨ w.heap.size = b) := by
  obtain ⟨i, z, hi1, hi2, hi3, hi4, hi5⟩ := he.info
  by_cases hy : ys = []
  · subst hy
    have hGn : Gs = [] := List.eq_nil_of_length_eq_zero (by simpa using hGl)
    subst hGn
    obtain ⟨base, cap, hu⟩ := hsrc.len
    subst hu
    refine ⟨v, w, ?_, Below.refl 0 w, fun _ _ _ => rfl, F, by simpa using hF, fun h _ => h, fun b hb => .inl hb⟩
    have hst : ∀ (a : Option Addr), (Builtin.firstCells R.r.n 0 (.slice a 0 cap)).run P w = .ok #[] w := by
      intro a; cases a <;> simp [Builtin.firstCells, loadCells, loadCellsFrom]
    rcases hF with ⟨hv, rfl, _⟩ | ⟨g, c1, c, Fs, hv, hb, hcc, _⟩
    · obtain rfl : v = .slice none 0 0 := by simpa using hv
      simp [Builtin.append_, run_underlying he.u, sizeOf, typeInfo, hi1, hi3, Builtin.lenOf, hst]
    · obtain rfl : v = .slice (some ⟨g, 0, none⟩) xs.length c1 := by simpa using hv
      simp [Builtin.append_, run_underlying he.u, sizeOf, typeInfo, hi1, hi3, Builtin.lenOf, hst, hcc, storeCells]
  · have hm0 : ys.length ≠ 0 := fun h => hy (List.eq_nil_of_length_eq_zero h)
    obtain ⟨g, o, c, rfl, hcell⟩ := hsrc.cells hm0
    obtain ⟨cs, c0, Fs, hown, hcs0, hFs, hels, hFb⟩ : ∃ (cs : List Value) (c0 : Array Value) (Fs : List (List Nat)), w.ownsRow 0 e R.r.n v xs.length cs ∧ (∀ j, j < xs.length * R.r.n → cs[j]? = c0[j]?) ∧ Fs.length = xs.length ∧
        (∀ i x G, xs[i]? = some x → Fs[i]? = some G → ∃ cs', R.rel H w G cs' x ∧ ∀ j v, cs'[j]? = some v → c0[i * R.r.n + j]? = some v) ∧
        ((F = [] ∧ Fs = [] ∧ v.ownBlock = none) ∨ ∃ g, F = g :: List.flatten Fs ∧ v.ownBlock = some g) := by
      rcases hF with ⟨hv, rfl, rfl⟩ | ⟨g', cap, c', Fs, hv, hb, h1, h2, hsz, hFF, he1, he2⟩
      · obtain rfl : v = .slice none 0 0 := by simpa using hv
        exact ⟨[], #[], [], ⟨by simp, .inl ⟨rfl, rfl⟩⟩, by simp, rfl, by simp, .inl ⟨rfl, rfl, rfl⟩⟩
      · obtain rfl : v = .slice (some ⟨g', 0, none⟩) xs.length cap := by simpa using hv
        refine ⟨c'.toList.take (xs.length * R.r.n), c', Fs, ⟨?_, .inr ⟨g', cap, c', rfl, Nat.zero_le _, hb, h1, h2, hsz, rfl⟩⟩, fun j hj => ?_, he1, he2, .inr ⟨g', hFF, rfl⟩⟩
        · have := Nat.mul_le_mul_right R.r.n h1
          have h5 : c'.toList.length = cap * R.r.n := by simpa using hsz
          rw [List.length_take, h5]; omega
        · rw [List.getElem?_take_of_lt hj]; simp
    have hbytes : (xs.length + ys.length) * i.bytes ≤ 140737488355328 := by
      have := Nat.mul_le_mul hlen hi4
      omega
    obtain ⟨v', w', hrun, ho', hg', hnone, hat⟩ := run_append_own_at (P := P) w 0 t ty e i z R.r.n i.bytes he.u hi1 hi2 hi3 rfl hi5 he.pos v xs.length cs hown ⟨g, o, none⟩ ys.length c news hsrc.nl
      (fun j u hu => by rw [add_lit]; exact hcell j u hu) hsrc.one (by rw [maxLen_eq]; omega) hbytes (Nat.zero_le _)
    have hkeep : ∀ b, b < w.heap.size → b ∉ F → w'.heap[b]? = w.heap[b]? := fun b hb hne => hg'.block b hb fun hx => by
      rcases hFb with ⟨_, _, h⟩ | ⟨g2, h, h2⟩
      · rw [h] at hx; cases hx
      · rw [h2] at hx; injection hx with hx; subst hx; exact hne (by rw [h]; simp)
    refine ⟨v', w', hrun, ⟨hg'.os, hg'.tape, hg'.output, hg'.size, fun k hk => by omega⟩, hkeep, ?_⟩
    rcases ho'.2 with ⟨rfl, h0⟩ | ⟨g2, cap2, cur, rfl, _, hh2, hn2, hc2, hs2, ht2⟩
    · exfalso; omega
    · have hlen2 : (xs ++ ys).length = xs.length + ys.length := by simp
      have hcsl : cs.length = xs.length * R.r.n := hown.1
      have hin : ∀ (j : Nat) (u : Value), (cs ++ news)[j]? = some u → cur[j]? = some u := by
        intro j u hu
        rw [← ht2, List.getElem?_take] at hu
        split at hu
        · simpa using hu
        · cases hu
      have hg2 : some g2 = v.ownBlock ∨ g2 = w.heap.size := by
        rcases hat with h | h
        · exact .inl h
        · exact .inr (by simpa [Value.ownBlock] using h)
      have hflt : List.flatten (Fs ++ Gs) = List.flatten Fs ++ List.flatten Gs := List.flatten_append
      have hFsF : ∀ b ∈ List.flatten Fs, b ∈ F := by
        intro b hb
        rcases hFb with ⟨_, h, _⟩ | ⟨g3, h, _⟩
        · rw [h] at hb; cases hb
        · rw [h]; exact List.mem_cons_of_mem _ hb
      have hFsn : ∀ b ∈ List.flatten Fs, some b ≠ v.ownBlock := by
        intro b hb hx
        rcases hFb with ⟨_, h, _⟩ | ⟨g3, h, h2⟩
        · rw [h] at hb; cases hb
        · rw [h2] at hx; injection hx with hx; subst hx
          rw [h] at hFn; exact (List.nodup_cons.1 hFn).1 hb
      have hlt : ∀ {G : List Nat} {cs' : List Value} {x : α}, R.rel H w G cs' x → ∀ b ∈ G, b < w.heap.size := fun h b hb => R.lt h b hb
      refine ⟨g2 :: List.flatten (Fs ++ Gs), .inr ⟨g2, cap2, cur, Fs ++ Gs, by rw [hlen2], hh2, by rw [hlen2]; exact hn2, hc2, hs2, rfl, by simp [hFs, hGl], fun k zz G hz hGk => ?_⟩, fun hn1 hn2' => ?_, fun b hb => ?_⟩
      · rcases Nat.lt_or_ge k xs.length with hk | hk
        · rw [List.getElem?_append_left hk] at hz
          rw [List.getElem?_append_left (by omega)] at hGk
          obtain ⟨cs', hr, hj⟩ := hels k zz G hz hGk
          refine ⟨cs', R.loc hr fun b hb => ?_, fun j u hu => hin _ _ ?_⟩
          · exact hg'.block b (hlt hr b hb) (hFsn b (List.mem_flatten.2 ⟨G, List.mem_of_getElem? hGk, hb⟩))
          · have h1 := hj j u hu
            have hjn : j < R.r.n := by have := (List.getElem?_eq_some_iff.1 hu).1; rw [R.len hr] at this; exact this
            have hlt2 : k * R.r.n + j < xs.length * R.r.n := by
              have := Nat.mul_le_mul_right R.r.n (show k + 1 ≤ xs.length from hk)
              rw [Nat.add_mul] at this; omega
            rw [List.getElem?_append_left (by omega), hcs0 _ hlt2]
            exact h1
        · rw [List.getElem?_append_right hk] at hz
          rw [List.getElem?_append_right (by omega), hFs] at hGk
          obtain ⟨cs', hr, hj⟩ := hG _ zz G hz hGk
          refine ⟨cs', R.loc hr fun b hb => ?_, fun j u hu => hin _ _ ?_⟩
          · refine hkeep b (hlt hr b hb) fun hbF => hdis b hbF (List.mem_flatten.2 ⟨G, List.mem_of_getElem? hGk, hb⟩)
          · have h1 := hj j u hu
            have hkn := Nat.mul_le_mul_right R.r.n hk
            rw [List.getElem?_append_right (by rw [hcsl]; omega), hcsl]
            rwa [show k * R.r.n + j - xs.length * R.r.n = (k - xs.length) * R.r.n + j from by rw [Nat.sub_mul]; omega]
      · rw [hflt]
        have hallt : ∀ b ∈ List.flatten Gs, b < w.heap.size := by
          intro b hb
          obtain ⟨G, hGm, hbG⟩ := List.mem_flatten.1 hb
          obtain ⟨k, hk⟩ := List.getElem?_of_mem hGm
          have hkl : k < ys.length := by rw [← hGl]; exact (List.getElem?_eq_some_iff.1 hk).1
          obtain ⟨cs', hr, _⟩ := hG k _ G (List.getElem?_eq_getElem hkl) hk
          exact hlt hr b hbG
        have hallF : ∀ b ∈ List.flatten Fs, b < w.heap.size := by
          intro b hb
          obtain ⟨G, hGm, hbG⟩ := List.mem_flatten.1 hb
          obtain ⟨k, hk⟩ := List.getElem?_of_mem hGm
          have hkl : k < xs.length := by rw [← hFs]; exact (List.getElem?_eq_some_iff.1 hk).1
          obtain ⟨cs', hr, _⟩ := hels k _ G (List.getElem?_eq_getElem hkl) hk
          exact hlt hr b hbG
        have hFsnd : (List.flatten Fs).Nodup := by
          rcases hFb with ⟨_, h, _⟩ | ⟨g3, h, _⟩
          · rw [h]; exact .nil
          · rw [h] at hn1; exact (List.nodup_cons.1 hn1).2
        refine List.nodup_cons.2 ⟨fun hmem => ?_, List.nodup_append.2 ⟨hFsnd, hn2', fun a ha b hb hab => ?_⟩⟩
        · rcases List.mem_append.1 hmem with hm | hm
          · rcases hg2 with h | h
            · exact hFsn g2 hm h
            · have := hallF g2 hm; omega
          · rcases hg2 with h | h
            · rcases hFb with ⟨_, _, h2⟩ | ⟨g3, h3, h2⟩
              · rw [h2] at h; cases h
              · rw [h2] at h; injection h with h; subst h
                exact hdis g2 (by rw [h3]; simp) hm
            · have := hallt g2 hm; omega
        · subst hab; exact hdis a (hFsF a ha) hb
      · rcases List.mem_cons.1 hb with rfl | hb
        · rcases hg2 with h | h
          · rcases hFb with ⟨_, _, h2⟩ | ⟨g3, h3, h2⟩
            · rw [h2] at h; cases h
            · rw [h2] at h; injection h with h; subst h
              exact .inl (by rw [h3]; simp)
          · exact .inr (.inr h.symm)
        · rw [hflt] at hb
          rcases List.mem_append.1 hb with hb | hb
          · exact .inl (hFsF b hb)
          · exact .inr (.inl hb)
end app
section rules
variable {P : Program} {N : Nat} {Q : Post} {f : Fr} {w : World} {ops : Array Oper} {rest : List Oper} {d : Nat} {ty : TypeId} {pos : String} {af : Array Edge} {gd : Option (Nat × Bool)}
variable {x y : Operand} {v : Value} {H : FH} {As Bs : List Ass}
theorem L_len {n : Nat} {t e : TypeId} (hk : ok1 ops f N d gd = true) (hu : P.underlying t = some (.slice e)) (hx : ev f x = v) (hs : ∃ base cap, v = .slice base n cap ∧ n ≤ cap ∧ cap ≤ maxLen)
    (h : L P N ops rest Q (upd f d (.int .i64 (n : Int))) w) : L P N ops (⟨some d, .call ⟨.builtin .len, #[x], #[t]⟩, ty, pos, af, gd⟩ :: rest) Q f w := by
  obtain ⟨base, cap, hv, _⟩ := hs
  exact L_pure hk (by simp [execOp, resolve, invoke, builtin, Builtin.len_, hx, hv, run_underlying hu, goInt]) h
theorem L_box {t : TypeId} {cs : Array Value} (hk : ok1 ops f N d gd = true) (hx : ev f x = v) (hc : v.cells = cs) (hst : Star H w As)
    (h : ∀ g w', Star H w' (box g t cs :: As) → L P N ops rest Q (upd f d (.pointer (some ⟨g, 0, none⟩))) w') : L P N ops (⟨some d, .box t x, ty, pos, af, gd⟩ :: rest) Q f w :=
  L_pure hk (by subst hc; simp [execOp, hx, Instr.box, newVar, newRow]) (h _ _ hst.alloc)
theorem L_al {t : TypeId} {z : Value} {cs : Array Value} (hk : ok1 ops f N d gd = true) (hz : ∀ w, (zeroValue t).run P w = .ok z w) (hc : z.cells = cs) (hst : Star H w As)
    (h : ∀ g w', Star H w' (box g t cs :: As) → L P N ops rest Q (upd f d (.pointer (some ⟨g, 0, none⟩))) w') : L P N ops (⟨some d, .alloc t, ty, pos, af, gd⟩ :: rest) Q f w :=
  L_pure hk (by subst hc; simp [execOp, Instr.alloc, hz, newVar, newRow]) (h _ _ hst.alloc)
theorem L_bs {t e : TypeId} {n : Nat} {parts : Array (Nat × Operand)} {vs : Array (Nat × Value)} {cs : Array Value} (hk : ok1 ops f N d gd = true) (hp : parts.map (fun p => (p.1, ev f p.2)) = vs)
    (hb : ∀ w, (Instr.buildSlice t n vs).run P w = .ok (.slice (some ⟨w.heap.size, 0, none⟩) n n) (w.alloc (.cells cs e))) (hst : Star H w As)
    (h : ∀ g w', Star H w' (box g e cs :: As) → L P N ops rest Q (upd f d (.slice (some ⟨g, 0, none⟩) n n)) w') : L P N ops (⟨some d, .buildSlice t n parts, ty, pos, af, gd⟩ :: rest) Q f w :=
  L_pure hk (by simp only [execOp, hp, Sem.run_bind, hb]; rfl) (h _ _ hst.alloc)
def ownL {α : Type} (R : OR α) (els : List (List Value × α)) : List Ass := els.map fun p => own R p.1 p.2
theorem sep_ownL {α : Type} {R : OR α} : ∀ {els : List (List Value × α)} {F : List Nat}, SepL (ownL R els) H w F → ∃ Fs : List (List Nat), F = List.flatten Fs ∧ Fs.length = els.length ∧ ∀ (i : Nat) (p : List Value × α) (G : List Nat), els[i]? = some p → Fs[i]? = some G → R.rel H w G p.1 p.2
  | [], F, h => ⟨[], h, rfl, by simp⟩
  | p :: els, F, ⟨F1, F2, hF, h1, h2⟩ => by
    obtain ⟨Fs, k1, k2, k3⟩ := sep_ownL h2
    refine ⟨F1 :: Fs, by rw [hF, k1]; rfl, by simp [k2], fun i q G hi hG => ?_⟩
    cases i with
    | zero => simp at hi hG; subst hi hG; exact h1
    | succ i => exact k3 i q G (by simpa using hi) (by simpa using hG)
theorem flat_get {n : Nat} : ∀ {css : List (List Value)} {i j : Nat} {c : List Value} {v : Value}, (∀ c ∈ css, c.length = n) → css[i]? = some c → c[j]? = some v → css.flatten[i * n + j]? = some v
  | [], i, j, c, v, _, h, _ => by simp at h
  | d :: css, 0, j, c, v, hl, h, hj => by
    simp at h
    subst h
    have hlt := (List.getElem?_eq_some_iff.1 hj).1
    rw [List.flatten_cons, Nat.zero_mul, Nat.zero_add, List.getElem?_append_left hlt]
    exact hj
  | d :: css, i + 1, j, c, v, hl, h, hj => by
    have hd := hl d (by simp)
    rw [List.flatten_cons, List.getElem?_append_right (by rw [hd, Nat.add_mul]; omega)]
    have := flat_get (css := css) (i := i) (j := j) (fun c hc => hl c (by simp [hc])) (by simpa using h) hj
    rw [hd, show (i + 1) * n + j - n = i * n + j from by rw [Nat.add_mul]; omega]
    exact this
theorem flat_len {n : Nat} : ∀ {l : List (List Value)}, (∀ c ∈ l, c.length = n) → l.flatten.length = l.length * n
  | [], _ => by simp
  | d :: l, h => by rw [List.flatten_cons, List.length_append, h d (by simp), flat_len fun c hc => h c (by simp [hc]), List.length_cons, Nat.add_mul]; omega
theorem Star.mkRow {α : Type} {R : OR α} {e : TypeId} {g : Nat} {cs : Array Value} (els : List (List Value × α)) (xs : List α) (n : Nat) (h : Star H w (ownL R els ++ (box g e cs :: As))) (hc : cs.toList = (els.map (·.1)).flatten) (hxs : els.map (·.2) = xs) (hn : xs.length = n) (hm : n ≤ maxLen) :
    Star H w (own (OR.ownS e R) [.slice (some ⟨g, 0, none⟩) n n] xs :: As) := by
  have h2 : Star H w ((ownL R els ++ [box g e cs]) ++ As) := by simpa using h
  refine h2.convL (B := [_]) fun F hF => ?_
  obtain ⟨F1, F2, rfl, h1, hb⟩ := SepL.split hF
  obtain ⟨G1, G2, rfl, ⟨rfl, hb⟩, hG2⟩ := hb
  have hG2 : G2 = [] := hG2
  subst hG2
  obtain ⟨Fs, rfl, hl, hr⟩ := sep_ownL h1
  have hll : els.length = n := by rw [← hn, ← hxs, List.length_map]
  have hget : ∀ i, i < els.length → ∃ (p : List Value × α) (G : List Nat), els[i]? = some p ∧ Fs[i]? = some G ∧ R.rel H w G p.1 p.2 := fun i hi =>
    ⟨_, _, List.getElem?_eq_getElem hi, List.getElem?_eq_getElem (by omega), hr i _ _ (List.getElem?_eq_getElem hi) (List.getElem?_eq_getElem (by omega))⟩
  have hlen : ∀ c ∈ els.map (·.1), c.length = R.r.n := by
    intro c hc
    obtain ⟨p, hp, rfl⟩ := List.mem_map.1 hc
    obtain ⟨i, hi⟩ := List.getElem?_of_mem hp
    obtain ⟨p', G, h3, _, h5⟩ := hget i (List.getElem?_eq_some_iff.1 hi).1
    rw [hi] at h3; injection h3 with h3; subst h3
    exact R.len h5
  have hsz : cs.size = n * R.r.n := by
    have := flat_len hlen
    rw [← hc, List.length_map, hll] at this
    simpa using this
  refine ⟨g :: List.flatten Fs, ⟨_, [], by simp, .inr ⟨g, n, cs, Fs, by rw [hn], hb, by omega, hm, hsz, rfl, by rw [hl, hll, hn], fun i x G hi hG => ?_⟩, rfl⟩, ?_⟩
  · have hil : i < els.length := by rw [hll, ← hn]; exact (List.getElem?_eq_some_iff.1 hi).1
    obtain ⟨p, G', h3, h4, h5⟩ := hget i hil
    rw [hG] at h4; injection h4 with h4; subst h4
    have hx : p.2 = x := by
      rw [← hxs, List.getElem?_map, h3] at hi
      simpa using hi
    refine ⟨p.1, hx ▸ h5, fun j v hj => ?_⟩
    have := flat_get (i := i) hlen (by rw [List.getElem?_map, h3]; rfl) hj
    rw [← hc] at this
    simpa using this
  · simpa using (List.perm_append_comm (l₁ := [g]) (l₂ := List.flatten Fs))
theorem L_mk {α : Type} {R : OR α} {t e : TypeId} {n : Int} {z0 : α} {zc : List Value} {xs : List α} (hk : ok1 ops f N d gd = true) (he : ET P t e R.r.n) (hz : ((P.info? e).bind (·.zero)).map (·.cells.toList) = some zc) (hrel : ∀ H w, R.rel H w [] zc z0)
    (hx : ev f x = .int .i64 n) (hy : ev f y = .int .i64 n) (hm : mkN n z0 = some xs) (hst : Star H w As)
    (h : ∀ v' w', Star H w' (own (OR.ownS e R) [v'] xs :: As) → L P N ops rest Q (upd f d v') w') : L P N ops (⟨some d, .makeSlice t x y, ty, pos, af, gd⟩ :: rest) Q f w := by
  obtain ⟨h0, h1, rfl⟩ := mkN_some hm
  obtain ⟨i, z, hi1, hi2, hi3, hi4, hi5⟩ := he.info
  have hzc : z.cells.toList = zc := by simpa [hi1, hi2] using hz
  have hb : (i.bytes : Int) * n ≤ 281474976710656 := by
    have h4 : i.bytes * n.toNat ≤ 128 * 4294967296 := Nat.mul_le_mul hi4 (by omega)
    have h5 : (i.bytes : Int) * n = ((i.bytes * n.toNat : Nat) : Int) := by rw [Int.natCast_mul, Int.toNat_of_nonneg h0]
    rw [h5]; omega
  have hr := run_make (P := P) w t e i z he.u hi1 hi2 .i64 .i64 n n h0 (Int.le_refl _) hb (by omega)
  refine L_pure (v := .slice (some ⟨w.heap.size, 0, none⟩) n.toNat n.toNat) (w' := w.alloc (.cells (madeCells z.cells (n.toNat * i.size)) e)) hk (by simp [execOp, hx, hy, hr]) (h _ _ ?_)
  have hst2 := hst.alloc (t := e) (cs := madeCells z.cells (n.toNat * i.size))
  refine hst2.conv (B := [_]) fun F ⟨hF, hblk⟩ => ?_
  subst hF
  refine ⟨_, ⟨w.heap.size :: List.flatten (List.replicate n.toNat []), [], (List.append_nil _).symm, .inr ⟨w.heap.size, n.toNat, _, List.replicate n.toNat [], by simp, hblk, by simp, by rw [maxLen_eq]; omega, ?_, rfl, by simp, fun k u G hu hG => ?_⟩, rfl⟩, ?_⟩
  · rw [size_madeCells, hi3]
  · rw [List.getElem?_replicate] at hu hG
    split at hu
    · rename_i hkl
      rw [if_pos hkl] at hG
      injection hu with hu
      injection hG with hG
      subst hu hG
      refine ⟨zc, hrel _ _, fun j v hj => ?_⟩
      have hjl : j < R.r.n := by have := (List.getElem?_eq_some_iff.1 hj).1; rw [R.len (hrel H w)] at this; exact this
      have hkj : k * R.r.n + j < n.toNat * i.size := by
        rw [hi3]
        have := Nat.mul_le_mul_right R.r.n (show k + 1 ≤ n.toNat from hkl)
        rw [Nat.add_mul] at this; omega
      have hmod : (k * R.r.n + j) % z.cells.size = j := by rw [hi5, Nat.mul_comm, Nat.mul_add_mod, Nat.mod_eq_of_lt hjl]
      unfold madeCells
      rw [Array.getElem?_map, Array.getElem?_range, if_pos hkj]
      simp only [Option.map_some, hmod]
      rw [← hzc] at hj
      have hj2 : z.cells[j]? = some v := by simpa using hj
      rw [getElem!_def, hj2]
    · cases hu
  · simp
theorem L_capN {t e : TypeId} (hk : ok1 ops f N d gd = true) (hu : P.underlying t = some (.slice e)) (hx : ev f x = .slice none 0 0)
    (h : L P N ops rest Q (upd f d (.int .i64 0)) w) : L P N ops (⟨some d, .call ⟨.builtin .cap, #[x], #[t]⟩, ty, pos, af, gd⟩ :: rest) Q f w :=
  L_pure hk (by simp [execOp, resolve, invoke, builtin, Builtin.cap_, hx, run_underlying hu, goInt]) h
theorem L_appZ {α : Type} {R : OR α} {t tn e : TypeId} {n : Int} {z0 : α} {zc : List Value} {xs : List α} (hk : ok1 ops f N d gd = true) (he : ET P t e R.r.n) (htn : P.underlying tn = some (.int .i64)) (hz : ((P.info? e).bind (·.zero)).map (·.cells.toList) = some zc) (hrel : ∀ H w, R.rel H w [] zc z0)
    (hx : ev f x = .slice none 0 0) (hy : ev f y = .int .i64 n) (hm : mkN n z0 = some xs) (hst : Star H w As)
    (h : ∀ v' w', Star H w' (own (OR.ownS e R) [v'] xs :: As) → L P N ops rest Q (upd f d v') w') : L P N ops (⟨some d, .call ⟨.builtin .append, #[x, y], #[t, tn]⟩, ty, pos, af, gd⟩ :: rest) Q f w := by
  obtain ⟨h0, h1, rfl⟩ := mkN_some hm
  obtain ⟨i, z, hi1, hi2, hi3, hi4, hi5⟩ := he.info
  have hzc : z.cells.toList = zc := by simpa [hi1, hi2] using hz
  have hb : n.toNat * i.bytes ≤ 281474976710656 := by
    have h4 : n.toNat * i.bytes ≤ 4294967296 * 128 := Nat.mul_le_mul (by omega) hi4
    omega
  obtain ⟨k, rfl⟩ : ∃ k : Nat, n = (k : Int) := ⟨n.toNat, by omega⟩
  have hpos' := he.pos
  rcases Nat.eq_zero_or_pos k with rfl | hpos
  · refine L_pure (v := .slice none 0 0) (w' := w) hk ?_ (h _ _ ?_)
    · simp [execOp, resolve, invoke, builtin, hx, hy, Builtin.append_, run_underlying he.u, run_underlying htn, sizeOf, typeInfo, hi1, asInt, asIntOf, show IntKind.i64.wrap 0 = 0 from rfl]
    · exact Star.addNil hst
  rw [Int.toNat_natCast] at hb
  have hr := Go.Lib.run_append_nil_zeros (P := P) w t tn ty e i z .i64 .i64 he.u htn hi1 hi2 k hpos (by rw [hi3]; exact hpos') (by omega) hb
  have hge := grownCap_ge w k 0 e
  have hcm := grownCap_le_maxLen w k 0 e (by rw [maxLen_eq]; omega)
  refine L_pure (v := .slice (some ⟨w.heap.size, 0, none⟩) k (grownCap w k 0 e)) (w' := w.drew.alloc (.cells (Builtin.zeroCells z.cells k ++ Builtin.zeroCells z.cells (grownCap w k 0 e - k)) e)) hk (by simp [execOp, resolve, invoke, builtin, hx, hy, hr]) (h _ _ ?_)
  have hst2 := (Star.drew (w.drawn + 1) hst).alloc (t := e) (cs := Builtin.zeroCells z.cells k ++ Builtin.zeroCells z.cells (grownCap w k 0 e - k))
  refine Star.conv (B := [_]) hst2 fun F ⟨hF, hblk⟩ => ?_
  subst hF
  refine ⟨_, ⟨w.heap.size :: List.flatten (List.replicate k []), [], (List.append_nil _).symm, .inr ⟨w.heap.size, grownCap w k 0 e, _, List.replicate k [], by simp, hblk, by simpa using hge, hcm, ?_, rfl, by simp, fun q u G hu hG => ?_⟩, rfl⟩, ?_⟩
  · rw [Array.size_append, size_zeroCells, size_zeroCells, hi5, ← Nat.add_mul]
    congr 1
    omega
  · rw [Int.toNat_natCast, List.getElem?_replicate] at hu
    rw [List.getElem?_replicate] at hG
    split at hu
    · rename_i hkl
      rw [if_pos hkl] at hG
      injection hu with hu
      injection hG with hG
      subst hu hG
      refine ⟨zc, hrel _ _, fun j v hj => ?_⟩
      have hjl : j < R.r.n := by have := (List.getElem?_eq_some_iff.1 hj).1; rw [R.len (hrel H w)] at this; exact this
      have hkj : q * R.r.n + j < k * z.cells.size := by
        rw [hi5]
        have := Nat.mul_le_mul_right R.r.n (show q + 1 ≤ k from hkl)
        rw [Nat.add_mul] at this; omega
      have hmod : (q * R.r.n + j) % z.cells.size = j := by rw [hi5, Nat.mul_comm, Nat.mul_add_mod, Nat.mod_eq_of_lt hjl]
      rw [Array.getElem?_append_left (by rw [size_zeroCells]; exact hkj)]
      unfold Builtin.zeroCells
      rw [Array.getElem?_map, Array.getElem?_range, if_pos hkj]
      simp only [Option.map_some, hmod]
      rw [← hzc] at hj
      have hj2 : z.cells[j]? = some v := by simpa using hj
      rw [getElem!_def, hj2]
    · cases hu
  · simp
theorem star_app {α : Type} {R : OR α} {t e : TypeId} {u : Value} {xs ys : List α} {C : List Ass} {news : List Value} {ty : TypeId} (he : ET P t e R.r.n) (hst : Star H w ((own (OR.ownS e R) [v] xs :: C) ++ As))
    (hC : ∀ F, SepL C H w F → ∃ Gs, SrcV w R.r.n u ys.length news ∧ Gs.length = ys.length ∧ (∀ i z G, ys[i]? = some z → Gs[i]? = some G → ∃ cs', R.rel H w G cs' z ∧ ∀ j v, cs'[j]? = some v → news[i * R.r.n + j]? = some v) ∧ (∀ b ∈ List.flatten Gs, b ∈ F) ∧ (F.Nodup → (List.flatten Gs).Nodup))
    (hlen : xs.length + ys.length ≤ 4294967296) : ∃ v' w', (Builtin.append_ #[t, t] ty #[v, u]).run P w = .ok v' w' ∧ Star H w' (own (OR.ownS e R) [v'] (xs ++ ys) :: As) := by
  obtain ⟨hs, F, ⟨F1, F2, rfl, h1, h2⟩, hn, hm, key⟩ := hst.updL
  obtain ⟨Gs, hsrc, hGl, hG, hsub, hGn⟩ := hC F2 h2
  obtain ⟨hn1, hn2, hn3⟩ := List.nodup_append.1 hn
  obtain ⟨v', w', hr, hb, hk, F', hF', hnd, hmem⟩ := run_app (ty := ty) he h1 hn1 hsrc hGl hG (fun b hb hbG => hn3 b hb b (hsub b hbG) rfl) hlen
  refine ⟨v', w', hr, key (B := [_]) (Le.refl _) ⟨hs.1.trans hb, fun b o x => ?_⟩ (fun b hb hne => hk b hb fun h => hne (List.mem_append_left _ h)) (fun b o x => .inl x) ⟨F', ⟨F', [], by simp, hF', rfl⟩, hnd hn1 (hGn hn2), fun b hb => ?_⟩⟩
  · have h3 := hs.2 b o x
    refine (hk b (Array.getElem?_eq_some_iff.1 h3).1 fun hbF => ?_).trans h3
    rw [(hm b (List.mem_append_left _ hbF)).1] at x; cases x
  · rcases hmem b hb with h | h | h
    · exact ⟨.inl (List.mem_append_left _ h), (hm b (List.mem_append_left _ h)).1⟩
    · exact ⟨.inl (List.mem_append_right _ (hsub b h)), (hm b (List.mem_append_right _ (hsub b h))).1⟩
    · exact ⟨.inr (by omega), hs.lt (by omega)⟩
theorem L_app {α : Type} {r : RP α} {t e t' : TypeId} {xs ys zs : List α} {u : Value} (hk : ok1 ops f N d gd = true) (he : ET P t e r.n) (hx : ev f x = v) (hy : ev f y = u)
    (hst : Star H w (own (OR.ownS e (OR.frz r)) [v] xs :: As)) (hs : (RP.slice t' r).rel H [u] ys) (happ : app xs ys = some zs)
    (h : ∀ v' w', Star H w' (own (OR.ownS e (OR.frz r)) [v'] zs :: As) → L P N ops rest Q (upd f d v') w') :
    L P N ops (⟨some d, .call ⟨.builtin .append, #[x, y], #[t, t]⟩, ty, pos, af, gd⟩ :: rest) Q f w := by
  obtain ⟨hlen, rfl⟩ := app_some happ
  obtain ⟨news, n1, n2⟩ := src_rel hst.sub hs
  obtain ⟨v', w', hr, hst'⟩ := star_app (ty := ty) (C := []) he hst (fun F hF => ⟨List.replicate ys.length [], n1, by simp, (fun i z G hz hG => by
    rw [List.getElem?_replicate] at hG
    split at hG
    · injection hG with hG
      subst hG
      obtain ⟨cs', a, b⟩ := n2 i z hz
      exact ⟨cs', ⟨rfl, a⟩, b⟩
    · cases hG), by simp, fun _ => by simp⟩) hlen
  exact L_pure hk (by simp [execOp, resolve, invoke, builtin, hx, hy, hr]) (h v' w' hst')
theorem L_appC {α : Type} {r : RP α} {t e e' : TypeId} {xs ys zs : List α} {u : Value} (hk : ok1 ops f N d gd = true) (he : ET P t e r.n) (hx : ev f x = v) (hy : ev f y = u)
    (hst : Star H w (own (OR.ownS e (OR.frz r)) [v] xs :: own (OR.ownS e' (OR.frz r)) [u] ys :: As)) (happ : app xs ys = some zs)
    (h : ∀ v' w', Star H w' (own (OR.ownS e (OR.frz r)) [v'] zs :: own (OR.ownS e' (OR.frz r)) [u] ys :: As) → L P N ops rest Q (upd f d v') w') :
    L P N ops (⟨some d, .call ⟨.builtin .append, #[x, y], #[t, t]⟩, ty, pos, af, gd⟩ :: rest) Q f w := by
  obtain ⟨hlen, rfl⟩ := app_some happ
  obtain ⟨F, hF⟩ := hst.tail.one
  obtain ⟨news, Gs, n1, n2, n3, _⟩ := src_own hF
  obtain ⟨v', w', hr, hst'⟩ := star_app (ty := ty) (C := []) (ys := ys) (u := u) (news := news) he hst (fun F hF => ⟨List.replicate ys.length [], n1, by simp, (fun i z G hz hG => by
    rw [List.getElem?_replicate] at hG
    split at hG
    · injection hG with hG
      subst hG
      have hil := (List.getElem?_eq_some_iff.1 hz).1
      obtain ⟨cs', a, b⟩ := n3 i z Gs[i] hz (List.getElem?_eq_getElem (by omega))
      exact ⟨cs', ⟨rfl, a.2⟩, b⟩
    · cases hG), by simp, fun _ => by simp⟩) hlen
  exact L_pure hk (by simp [execOp, resolve, invoke, builtin, hx, hy, hr]) (h v' w' hst')
theorem L_appM {α : Type} {R : OR α} {t e e' : TypeId} {xs ys zs : List α} {u : Value} (hk : ok1 ops f N d gd = true) (he : ET P t e R.r.n) (hx : ev f x = v) (hy : ev f y = u)
    (hst : Star H w (own (OR.ownS e R) [v] xs :: own (OR.ownS e' R) [u] ys :: As)) (happ : app xs ys = some zs)
    (h : ∀ v' w', Star H w' (own (OR.ownS e R) [v'] zs :: As) → L P N ops rest Q (upd f d v') w') :
    L P N ops (⟨some d, .call ⟨.builtin .append, #[x, y], #[t, t]⟩, ty, pos, af, gd⟩ :: rest) Q f w := by
  obtain ⟨hlen, rfl⟩ := app_some happ
  obtain ⟨F0, hF0⟩ := hst.tail.one
  obtain ⟨news0, Gs0, n1, _⟩ := src_own hF0
  have key : ∃ v' w', (Builtin.append_ #[t, t] ty #[v, u]).run P w = .ok v' w' ∧ Star H w' (own (OR.ownS e R) [v'] (xs ++ ys) :: As) := by
    obtain ⟨hs, F, ⟨F1, F2, rfl, h1, F3, F4, rfl, h3, h4⟩, hn, hm⟩ := hst
    obtain ⟨news, Gs, n1, n2, n3, n4⟩ := src_own h3
    have hst2 : Star H w ([own (OR.ownS e R) [v] xs, ⟨fun H' w' G => G = F3 ∧ (OR.ownS e' R).rel H' w' F3 [u] ys, fun _ => True, fun h k => ⟨h.1, (OR.ownS e' R).mono h.2 k⟩, fun h k => ⟨h.1, (OR.ownS e' R).loc h.2 (by rw [← h.1]; exact k)⟩, fun h => by rw [h.1]; exact (OR.ownS e' R).lt h.2, fun _ _ _ => trivial⟩] ++ As) :=
      ⟨hs, F1 ++ (F3 ++ F4), ⟨F1, F3 ++ F4, rfl, h1, F3, F4, rfl, ⟨rfl, h3⟩, h4⟩, hn, hm⟩
    refine star_app (ty := ty) (news := news) he hst2 (fun F hF => ?_) hlen
    obtain ⟨G1, G2, hFG, ⟨hG1, _⟩, hG2⟩ := hF
    have hG2 : G2 = [] := hG2
    subst hG1 hG2
    rw [List.append_nil] at hFG
    subst hFG
    refine ⟨Gs, n1, n2, n3, fun b hb => ?_, fun hnd => ?_⟩
    · rcases n4 with ⟨_, h5⟩ | ⟨g, h5⟩
      · have : Gs = [] := List.eq_nil_of_length_eq_zero (by rw [n2, h5]; rfl)
        rw [this] at hb; cases hb
      · rw [h5]; exact List.mem_cons_of_mem _ hb
    · rcases n4 with ⟨_, h5⟩ | ⟨g, h5⟩
      · have : Gs = [] := List.eq_nil_of_length_eq_zero (by rw [n2, h5]; rfl)
        rw [this]; exact .nil
      · rw [h5] at hnd; exact (List.nodup_cons.1 hnd).2
  obtain ⟨v', w', hr, hst'⟩ := key
  exact L_pure hk (by simp [execOp, resolve, invoke, builtin, hx, hy, hr]) (h v' w' hst')
end rules
end Go.E
