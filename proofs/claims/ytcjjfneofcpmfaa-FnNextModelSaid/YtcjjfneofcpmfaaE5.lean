/- The rules of the operations that make memory; calls. -/
import Derived.Test.YtcjjfneofcpmfaaE4
namespace Go.E
open Go Go.RowKit
set_option linter.unusedVariables false

/-- what is asked of a slice type: its elements take n cells, at most 128 bytes -/
structure ET (P : Program) (t e : TypeId) (n : Nat) : Prop where
  u : P.underlying t = some (.slice e)
  sz : ∀ w, (sizeOf e).run P w = .ok n w
  pos : 0 < n
  info : ∃ i z, P.info? e = some i ∧ i.zero = some z ∧ i.size = n ∧ i.bytes ≤ 128 ∧ z.cells.size = n
theorem et_of {P : Program} {t e : TypeId} {n : Nat} (hu : P.underlying t = some (.slice e)) (hn : 0 < n)
    (hi : (P.info? e).map (fun i => (i.zero.map (·.cells.size), i.size, Nat.ble i.bytes 128)) = some (some n, n, true)) : ET P t e n := by
  cases h : P.info? e with
  | none => rw [h] at hi; cases hi
  | some i =>
    rw [h] at hi
    simp only [Option.map_some, Option.some.injEq, Prod.mk.injEq] at hi
    obtain ⟨h1, h2, h3⟩ := hi
    cases hz : i.zero with
    | none => rw [hz] at h1; cases h1
    | some z =>
      rw [hz] at h1
      refine ⟨hu, fun w => by simp [sizeOf, typeInfo, h, h2], hn, i, z, h, hz, h2, Nat.le_of_ble_eq_true h3, by simpa using h1⟩

structure New (w w' : World) (g : Nat) (t : TypeId) (cs : Array Value) : Prop where
  eq : g = w.heap.size
  blk : Blk w' g t cs
  ext : Ext w w'
  size : w'.heap.size = g + 1
theorem new_alloc (w : World) (t : TypeId) (cs : Array Value) : New w (w.alloc (.cells cs t)) w.heap.size t cs :=
  ⟨rfl, heap_alloc_new w _, (Below.refl _ _).alloc (Nat.le_refl _) _, by simp⟩
theorem New.ge {w0 w w' : World} {g : Nat} {t : TypeId} {cs : Array Value} (h : New w w' g t cs) (e : Ext w0 w) : w0.heap.size ≤ g := by rw [h.eq]; exact e.size

def app {α : Type} (xs ys : List α) : Option (List α) := if xs.length + ys.length ≤ 4294967296 then some (xs ++ ys) else none
theorem app_some {α : Type} {xs ys zs : List α} (h : app xs ys = some zs) : xs.length + ys.length ≤ 4294967296 ∧ zs = xs ++ ys := by
  unfold app at h
  split at h
  · rename_i hl; exact ⟨hl, by injection h with h; exact h.symm⟩
  · cases h
def mkN {α : Type} (n : Int) (z : α) : Option (List α) := if 0 ≤ n ∧ n ≤ 4294967296 then some (List.replicate n.toNat z) else none
theorem mkN_some {α : Type} {n : Int} {z : α} {xs : List α} (h : mkN n z = some xs) : 0 ≤ n ∧ n ≤ 4294967296 ∧ xs = List.replicate n.toNat z := by
  unfold mkN at h
  split at h
  · rename_i hl; exact ⟨hl.1, hl.2, by injection h with h; exact h.symm⟩
  · cases h
def sl {α : Type} (xs : List α) (lo hi : Int) : Option (List α) := if 0 ≤ lo ∧ lo ≤ hi ∧ hi ≤ xs.length then some ((xs.take hi.toNat).drop lo.toNat) else none
theorem sl_some {α : Type} {xs ys : List α} {lo hi : Int} (h : sl xs lo hi = some ys) : 0 ≤ lo ∧ lo ≤ hi ∧ hi ≤ xs.length ∧ ys = (xs.take hi.toNat).drop lo.toNat := by
  unfold sl at h
  split at h
  · rename_i hl; exact ⟨hl.1, hl.2.1, hl.2.2, by injection h with h; exact h.symm⟩
  · cases h

section rules
variable {P : Program} {N : Nat} {Q : Post} {f : Fr} {w : World} {ops : Array Oper} {rest : List Oper} {d : Nat} {ty : TypeId} {pos : String} {af : Array Edge} {gd : Option (Nat × Bool)}
variable {x y : Operand} {v : Value}
theorem L_box {t : TypeId} {cs : Array Value} (hk : ok1 ops f N d gd = true) (hx : ev f x = v) (hc : v.cells = cs)
    (h : ∀ g w', New w w' g t cs → L P N ops rest Q (upd f d (.pointer (some ⟨g, 0, none⟩))) w') : L P N ops (⟨some d, .box t x, ty, pos, af, gd⟩ :: rest) Q f w :=
  L_pure hk (by subst hc; simp [execOp, hx, Instr.box, newVar, newRow]) (h _ _ (new_alloc w t cs))
theorem L_al {t : TypeId} {z : Value} {cs : Array Value} (hk : ok1 ops f N d gd = true) (hz : ∀ w, (zeroValue t).run P w = .ok z w) (hc : z.cells = cs)
    (h : ∀ g w', New w w' g t cs → L P N ops rest Q (upd f d (.pointer (some ⟨g, 0, none⟩))) w') : L P N ops (⟨some d, .alloc t, ty, pos, af, gd⟩ :: rest) Q f w :=
  L_pure hk (by subst hc; simp [execOp, Instr.alloc, hz, newVar, newRow]) (h _ _ (new_alloc w t cs))
theorem L_bld {t : TypeId} {parts : Array (Nat × Operand)} {vs : Array (Nat × Value)} (hk : ok1 ops f N d gd = true) (hp : parts.map (fun p => (p.1, ev f p.2)) = vs)
    (hb : ∀ w, (Instr.build t vs).run P w = .ok v w) (h : L P N ops rest Q (upd f d v) w) : L P N ops (⟨some d, .build t parts, ty, pos, af, gd⟩ :: rest) Q f w :=
  L_pure hk (by simp only [execOp, hp, Sem.run_bind, hb]; rfl) h
theorem parts0 : (#[] : Array (Nat × Operand)).map (fun p => (p.1, ev f p.2)) = #[] := by simp
theorem parts1 {i : Nat} {a : Operand} {u : Value} (h1 : ev f a = u) : (#[(i, a)] : Array (Nat × Operand)).map (fun p => (p.1, ev f p.2)) = #[(i, u)] := by simp [h1]
theorem parts2 {i j : Nat} {a b : Operand} {u u' : Value} (h1 : ev f a = u) (h2 : ev f b = u') : (#[(i, a), (j, b)] : Array (Nat × Operand)).map (fun p => (p.1, ev f p.2)) = #[(i, u), (j, u')] := by simp [h1, h2]
theorem parts3 {i j k : Nat} {a b c : Operand} {u u' u'' : Value} (h1 : ev f a = u) (h2 : ev f b = u') (h3 : ev f c = u'') :
    (#[(i, a), (j, b), (k, c)] : Array (Nat × Operand)).map (fun p => (p.1, ev f p.2)) = #[(i, u), (j, u'), (k, u'')] := by simp [h1, h2, h3]
theorem parts4 {i j k l : Nat} {a b c e : Operand} {u u' u'' u3 : Value} (h1 : ev f a = u) (h2 : ev f b = u') (h3 : ev f c = u'') (h4 : ev f e = u3) :
    (#[(i, a), (j, b), (k, c), (l, e)] : Array (Nat × Operand)).map (fun p => (p.1, ev f p.2)) = #[(i, u), (j, u'), (k, u''), (l, u3)] := by simp [h1, h2, h3, h4]
theorem L_bs {t e : TypeId} {n : Nat} {parts : Array (Nat × Operand)} {vs : Array (Nat × Value)} {cs : Array Value} (hk : ok1 ops f N d gd = true) (hp : parts.map (fun p => (p.1, ev f p.2)) = vs)
    (hb : ∀ w, (Instr.buildSlice t n vs).run P w = .ok (.slice (some ⟨w.heap.size, 0, none⟩) n n) (w.alloc (.cells cs e)))
    (h : ∀ g w', New w w' g e cs → L P N ops rest Q (upd f d (.slice (some ⟨g, 0, none⟩) n n)) w') : L P N ops (⟨some d, .buildSlice t n parts, ty, pos, af, gd⟩ :: rest) Q f w :=
  L_pure hk (by simp only [execOp, hp, Sem.run_bind, hb]; rfl) (h _ _ (new_alloc w e cs))
theorem L_ex {vs : Array Value} {i : Nat} (hk : ok1 ops f N d gd = true) (hx : ev f x = .tuple vs) (hi : vs[i]? = some v) (h : L P N ops rest Q (upd f d v) w) :
    L P N ops (⟨some d, .extract x i, ty, pos, af, gd⟩ :: rest) Q f w :=
  L_pure hk (by simp [execOp, hx, Instr.extract, hi]) h
theorem L_fld {t : TypeId} {j : Nat} {cs : Array Value} (hk : ok1 ops f N d gd = true) (hx : ev f x = .agg cs) (hr : ∀ w, (Instr.field t (.agg cs) j).run P w = .ok v w) (h : L P N ops rest Q (upd f d v) w) :
    L P N ops (⟨some d, .field t x j, ty, pos, af, gd⟩ :: rest) Q f w :=
  L_pure hk (by simp [execOp, hx, hr]) h
theorem L_mf {fn : Fn} {cs : Array Operand} {vs : Array Value} (hk : ok1 ops f N d gd = true) (hc : cs.map (ev f) = vs) (h : L P N ops rest Q (upd f d (.func fn #[] vs)) w) :
    L P N ops (⟨some d, .makeFunc fn #[] cs, ty, pos, af, gd⟩ :: rest) Q f w :=
  L_pure hk (by simp only [execOp, hc]; simp [Instr.makeFunc]) h
theorem L_cv {k : IntKind} {k' : IntKind} {n : Int} {s t : TypeId} (hk : ok1 ops f N d gd = true) (hx : ev f x = .int k' n) (hs : ∃ k, P.underlying s = some (.int k)) (ht : P.underlying t = some (.int k))
    (h : L P N ops rest Q (upd f d (.int k (k.wrap n))) w) : L P N ops (⟨some d, .convert s t x, ty, pos, af, gd⟩ :: rest) Q f w := by
  obtain ⟨ks, hs⟩ := hs
  exact L_pure hk (by simp [execOp, hx, convert, run_underlying hs, run_underlying ht, Conv.intToInt]) h
theorem L_max {m n : Int} {ts : Array TypeId} (hk : ok1 ops f N d gd = true) (hx : ev f x = .int .i64 m) (hy : ev f y = .int .i64 n) (h : L P N ops rest Q (upd f d (.int .i64 (max m n))) w) :
    L P N ops (⟨some d, .call ⟨.builtin .max, #[x, y], ts⟩, ty, pos, af, gd⟩ :: rest) Q f w :=
  L_pure hk (by
    have : (if n > m then n else m) = max m n := by omega
    simp [execOp, resolve, invoke, builtin, Builtin.max_, Builtin.max2, hx, hy, this]) h
theorem L_min {m n : Int} {ts : Array TypeId} (hk : ok1 ops f N d gd = true) (hx : ev f x = .int .i64 m) (hy : ev f y = .int .i64 n) (h : L P N ops rest Q (upd f d (.int .i64 (min m n))) w) :
    L P N ops (⟨some d, .call ⟨.builtin .min, #[x, y], ts⟩, ty, pos, af, gd⟩ :: rest) Q f w :=
  L_pure hk (by
    have : (if n < m then n else m) = min m n := by omega
    simp [execOp, resolve, invoke, builtin, Builtin.min_, Builtin.min2, hx, hy, this]) h
/-! slices -/
section
variable {α : Type} {r : RP α} {t e : TypeId} {lo hi : Nat} {xs : List α}
theorem L_len (hk : ok1 ops f N d gd = true) (hu : P.underlying t = some (.slice e)) (hx : ev f x = v) (hs : (RP.slice e r).rel lo hi w [v] xs)
    (h : L P N ops rest Q (upd f d (.int .i64 (xs.length : Int))) w) : L P N ops (⟨some d, .call ⟨.builtin .len, #[x], #[t]⟩, ty, pos, af, gd⟩ :: rest) Q f w := by
  obtain ⟨base, cap, hv, _⟩ := slice_len hs
  exact L_pure hk (by simp [execOp, resolve, invoke, builtin, Builtin.len_, hx, hv, run_underlying hu, goInt]) h
theorem L_slen {s : ByteArray} (hk : ok1 ops f N d gd = true) (hu : P.underlying t = some .string) (hx : ev f x = .string s)
    (h : L P N ops rest Q (upd f d (.int .i64 (s.size : Int))) w) : L P N ops (⟨some d, .call ⟨.builtin .len, #[x], #[t]⟩, ty, pos, af, gd⟩ :: rest) Q f w :=
  L_pure hk (by simp [execOp, resolve, invoke, builtin, Builtin.len_, hx, run_underlying hu, goInt]) h
theorem slice_cut {l h cap : Nat} {a : Option Addr} (hs : (RP.slice e r).rel lo hi w [.slice a xs.length cap] xs) (hl : l ≤ h) (hh : h ≤ xs.length) :
    (RP.slice e r).rel lo hi w [.slice (if cap = l then a else a.map (·.add (l * r.n))) (h - l) (cap - l)] ((xs.take h).drop l) := by
  obtain ⟨base, cap', hv, h1, h2, h3⟩ := hs
  simp only [List.cons.injEq, and_true, Value.slice.injEq, true_and] at hv
  obtain ⟨rfl, rfl⟩ := hv
  have hlen : ((xs.take h).drop l).length = h - l := by simp; omega
  refine ⟨_, _, by rw [hlen], by rw [hlen]; omega, by omega, fun hne => ?_⟩
  have hlt : l < h := by
    rcases Nat.lt_or_ge l h with x | x
    · exact x
    · exact absurd (List.eq_nil_of_length_eq_zero (by omega)) hne
  obtain ⟨g, o, c, t', fz, hb, hg1, hg2, hc, he⟩ := h3 (by rintro rfl; simp at hh; omega)
  subst hb
  refine ⟨g, o + l * r.n, c, t', fz, ?_, hg1, hg2, hc, fun i z hz => ?_⟩
  · rw [if_neg (by omega)]
    simp [add_lit]
  · rw [List.getElem?_drop, List.getElem?_take] at hz
    split at hz
    · obtain ⟨cs', hr, hcs⟩ := he _ z hz
      refine ⟨cs', hr, fun j u hj => ?_⟩
      have := hcs j u hj
      rwa [show o + (l + i) * r.n + j = o + l * r.n + i * r.n + j from by rw [Nat.add_mul]; omega] at this
    · cases hz
/-- x[lo:hi] of a slice that is read -/
theorem L_sl {a b : Int} {ys : List α} {sx : Operand} {low high : Option Operand} (hk : ok1 ops f N d gd = true) (he : ET P t e r.n) (hx : ev f sx = v) (hs : (RP.slice e r).rel lo hi w [v] xs)
    (hl : match low with | none => a = 0 | some o => ev f o = .int .i64 a) (hh : match high with | none => b = xs.length | some o => ev f o = .int .i64 b) (hsl : sl xs a b = some ys)
    (h : ∀ u, (RP.slice e r).rel lo hi w [u] ys → L P N ops rest Q (upd f d u) w) : L P N ops (⟨some d, .slice t sx low high none, ty, pos, af, gd⟩ :: rest) Q f w := by
  obtain ⟨h0, hab, hbl, rfl⟩ := sl_some hsl
  obtain ⟨base, cap, hv, hcap, hmax⟩ := slice_len hs
  subst hv
  have hb0 : 0 ≤ b := by omega
  have hcut := slice_cut (l := a.toNat) (h := b.toNat) hs (by omega) (by omega)
  refine L_pure hk ?_ (h _ hcut)
  have hbc : b ≤ (cap : Int) := by omega
  have e1 : Instr.sliceAt t (.slice base xs.length cap) (low.map (ev f)) (high.map (ev f)) none = Instr.sliceAt t (.slice base xs.length cap) (low.map (ev f)) (high.map (ev f)) none := rfl
  cases low with
  | none =>
    subst hl
    cases high with
    | none =>
      subst hh
      simp [execOp, hx, Instr.sliceAt, Instr.slice, run_underlying he.u, he.sz, Instr.sliceBounds]
    | some oh =>
      simp [execOp, hx, hh, Instr.sliceAt, Instr.slice, run_underlying he.u, he.sz, Instr.sliceBounds, Instr.sliceBound, asIntOf, hb0, hbc]
  | some ol =>
    cases high with
    | none =>
      subst hh
      simp [execOp, hx, hl, Instr.sliceAt, Instr.slice, run_underlying he.u, he.sz, Instr.sliceBounds, Instr.sliceBound, asIntOf, h0, hab]
    | some oh =>
      have e3 : a ≤ ((b.toNat : Nat) : Int) := by omega
      simp [execOp, hx, hl, hh, Instr.sliceAt, Instr.slice, run_underlying he.u, he.sz, Instr.sliceBounds, Instr.sliceBound, asIntOf, h0, hb0, hbc]
      omega
/-- new rows as slices of the call's own -/
theorem own_new {n el : Nat} {w' : World} {g : Nat} {cs : Array Value} (hn : New w w' g e cs) (hl : xs.length = n) (hsz : cs.size = n * r.n) (hm : n ≤ maxLen) (hlo : lo ≤ w.heap.size)
    (hel : ∀ i z, xs[i]? = some z → ∃ cs', r.rel el w.heap.size w cs' z ∧ ∀ j u, cs'[j]? = some u → cs[i * r.n + j]? = some u) : Own r e lo el w' (.slice (some ⟨g, 0, none⟩) n n) xs := by
  subst hl
  refine .inr ⟨g, _, cs, rfl, by rw [hn.eq]; exact hlo, hn.blk, Nat.le_refl _, hm, hsz, fun i z hz => ?_⟩
  obtain ⟨cs', hr, hj⟩ := hel i z hz
  exact ⟨cs', RP.wide (RP.ext hr hn.ext) (Nat.le_refl _) hn.ext.size, hj⟩
theorem own_new0 {w' : World} {g el : Nat} (hn : New w w' g e #[]) (hlo : lo ≤ w.heap.size) : Own r e lo el w' (.slice (some ⟨g, 0, none⟩) 0 0) [] :=
  own_new hn rfl (by simp) (by simp) hlo (by simp)
theorem own_new1 {w' : World} {g el : Nat} {cs : Array Value} {z : α} (hn : New w w' g e cs) (hlo : lo ≤ w.heap.size) (hr : r.rel el w.heap.size w cs.toList z) : Own r e lo el w' (.slice (some ⟨g, 0, none⟩) 1 1) [z] :=
  own_new hn rfl (by have := r.len hr; simp at this; omega) (by simp [maxLen]) hlo (by
    intro i u hu
    cases i with
    | zero => simp at hu; subst hu; exact ⟨_, hr, fun j v hj => by simpa using hj⟩
    | succ i => simp at hu)
theorem maxLen_eq : maxLen = 9223372036854775807 := rfl
theorem rel_news {ys : List α} {u : Value} (hs : (RP.slice e r).rel lo hi w [u] ys) (hne : ys ≠ []) : ∃ (g o c : Nat) (news : List Value), u = .slice (some ⟨g, o, none⟩) ys.length c ∧ news.length = ys.length * r.n ∧
    (∀ j v, news[j]? = some v → w.cell? ⟨g, o + j, none⟩ = some v) ∧ (∀ v ∈ news, v.oneCell' = true) ∧
    ∀ i z, ys[i]? = some z → ∃ cs', r.rel lo hi w cs' z ∧ ∀ j v, cs'[j]? = some v → news[i * r.n + j]? = some v := by
  obtain ⟨base, cap, hv, h1, h2, h3⟩ := hs
  obtain ⟨g, o, c, t', fz, rfl, hg1, hg2, hc, he⟩ := h3 hne
  have hv' : u = .slice (some ⟨g, o, none⟩) ys.length cap := by simpa using hv
  -- the cells, element by element
  have hall : ∀ zs : List α, (∃ k, ys = ys.take k ++ zs ∧ k ≤ ys.length) → ∃ news : List Value, news.length = zs.length * r.n ∧ (∀ v ∈ news, v.oneCell' = true) ∧
      ∀ k, ys = ys.take k ++ zs → k ≤ ys.length → (∀ j v, news[j]? = some v → c[o + k * r.n + j]? = some v) ∧
        ∀ i z, zs[i]? = some z → ∃ cs', r.rel lo hi w cs' z ∧ ∀ j v, cs'[j]? = some v → news[i * r.n + j]? = some v := by
    intro zs
    induction zs with
    | nil => intro _; exact ⟨[], by simp, by simp, fun k _ _ => ⟨by simp, by simp⟩⟩
    | cons z zs ih =>
      rintro ⟨k, hk, hkl⟩
      have hz : ys[k]? = some z := by
        rw [hk, List.getElem?_append_right (by simp; omega)]
        simp [Nat.min_eq_left hkl]
      have hkl' : k < ys.length := (List.getElem?_eq_some_iff.1 hz).1
      have htk : ys.take (k + 1) = ys.take k ++ [z] := by
        rw [List.take_add_one, hz]; rfl
      have hk1 : ys = ys.take (k + 1) ++ zs := by rw [htk]; simpa using hk
      obtain ⟨news, hn1, hn2, hn3⟩ := ih ⟨k + 1, hk1, by omega⟩
      obtain ⟨cs', hr, hcs⟩ := he k z hz
      have hcl := r.len hr
      refine ⟨cs' ++ news, by simp [hn1, hcl, Nat.add_mul]; omega, ?_, ?_⟩
      · intro v hv
        rcases List.mem_append.1 hv with h | h
        · exact r.one hr v h
        · exact hn2 v h
      · intro k' hk' hkl2
        have hkk : k' = k := by
          have h5 := congrArg List.length hk
          have h6 := congrArg List.length hk'
          simp at h5 h6
          omega
        subst hkk
        obtain ⟨hn4, hn5⟩ := hn3 (k' + 1) hk1 (by omega)
        refine ⟨fun j v hj => ?_, fun i y hy => ?_⟩
        · rcases Nat.lt_or_ge j cs'.length with hlt | hge
          · rw [List.getElem?_append_left hlt] at hj
            exact hcs j v hj
          · rw [List.getElem?_append_right hge] at hj
            have := hn4 _ v hj
            rwa [show o + (k' + 1) * r.n + (j - cs'.length) = o + k' * r.n + j from by rw [Nat.add_mul]; omega] at this
        · cases i with
          | zero =>
            simp at hy
            subst hy
            refine ⟨cs', hr, fun j v hj => ?_⟩
            rw [Nat.zero_mul, Nat.zero_add, List.getElem?_append_left (List.getElem?_eq_some_iff.1 hj).1]
            exact hj
          | succ i =>
            obtain ⟨cs2, hr2, hj2⟩ := hn5 i y (by simpa using hy)
            refine ⟨cs2, hr2, fun j v hj => ?_⟩
            rw [List.getElem?_append_right (by rw [hcl, Nat.add_mul]; omega)]
            have := hj2 j v hj
            rwa [show (i + 1) * r.n + j - cs'.length = i * r.n + j from by rw [hcl, Nat.add_mul]; omega]
  obtain ⟨news, hn1, hn2, hn3⟩ := hall ys ⟨0, by simp, Nat.zero_le _⟩
  obtain ⟨hn4, hn5⟩ := hn3 0 (by simp) (Nat.zero_le _)
  refine ⟨g, o, cap, news, hv', hn1, fun j v hj => ?_, hn2, hn5⟩
  have := hn4 j v hj
  simp at this
  simp [World.cell?, hc, this]

/-- append onto a slice of the call's own -/
theorem run_app {el : Nat} {ys : List α} {u : Value} {ty : TypeId} (he : ET P t e r.n) (ht : e ∉ r.ts) (hown : Own r e lo el w v xs) (hs : (RP.slice e r).rel el hi w [u] ys) (hlen : xs.length + ys.length ≤ 4294967296) (hlo : lo ≤ w.heap.size) (hel0 : el ≤ lo) :
    ∃ v' w', (Builtin.append_ #[t, t] ty #[v, u]).run P w = .ok v' w' ∧ Own r e lo el w' v' (xs ++ ys) ∧ Mut lo v.ownBlock e w w' ∧ (v'.ownBlock = v.ownBlock ∨ v'.ownBlock = some w.heap.size) ∧
      (v' = .slice none 0 0 ↔ v = .slice none 0 0 ∧ ys = []) := by
  obtain ⟨i, z, hi1, hi2, hi3, hi4, hi5⟩ := he.info
  have hmut0 : Mut lo v.ownBlock e w w := by
    refine ⟨Below.refl _ _, fun _ _ _ => rfl, fun g c t' fz hg hc => ?_⟩
    rcases hown with ⟨rfl, _⟩ | ⟨g', cap, c', rfl, _, hb, _⟩
    · simp [Value.ownBlock] at hg
    · simp [Value.ownBlock] at hg
      subst hg
      unfold Blk at hb
      rw [hb] at hc
      injection hc with hc
      injection hc with _ ht _
      exact ht.symm
  by_cases hy : ys = []
  · subst hy
    obtain ⟨base, cap, hu, _⟩ := slice_len hs
    subst hu
    refine ⟨v, w, ?_, by simpa using hown, hmut0, .inl rfl, by simp⟩
    have hst : ∀ (a : Option Addr), (Builtin.firstCells r.n 0 (.slice a 0 cap)).run P w = .ok #[] w := by
      intro a; cases a <;> simp [Builtin.firstCells, loadCells, loadCellsFrom]
    rcases hown with ⟨rfl, rfl⟩ | ⟨g, c1, c, rfl, _, _, hcc, _⟩
    · simp [Builtin.append_, run_underlying he.u, sizeOf, typeInfo, hi1, hi3, Builtin.lenOf, hst]
    · simp [Builtin.append_, run_underlying he.u, sizeOf, typeInfo, hi1, hi3, Builtin.lenOf, hst, hcc, storeCells]
  · obtain ⟨g, o, c, news, rfl, hnl, hncell, hn1, hnel⟩ := rel_news hs hy
    -- the cells that are owned
    obtain ⟨cs, hown2, hxs⟩ : ∃ cs, w.ownsRow lo e r.n v xs.length cs ∧ ∀ i z, xs[i]? = some z → ∃ cs', r.rel el w.heap.size w cs' z ∧ ∀ j u, cs'[j]? = some u → cs[i * r.n + j]? = some u := by
      rcases hown with ⟨rfl, rfl⟩ | ⟨g', cap, c', rfl, hlo', hb, h1, h2, hsz, hel⟩
      · exact ⟨[], ⟨by simp, .inl ⟨rfl, rfl⟩⟩, by simp⟩
      · refine ⟨c'.toList.take (xs.length * r.n), ⟨?_, .inr ⟨g', cap, c', rfl, hlo', hb, h1, h2, hsz, rfl⟩⟩, ?_⟩
        · have := Nat.mul_le_mul_right r.n h1
          have h5 : c'.toList.length = cap * r.n := by simpa using hsz
          rw [List.length_take, h5]; omega
        · intro i z hz
          obtain ⟨cs', hr, hj⟩ := hel i z hz
          refine ⟨cs', hr, fun j u hu => ?_⟩
          have h3 := hj j u hu
          have hlt : i < xs.length := (List.getElem?_eq_some_iff.1 hz).1
          have hjl : j < r.n := by have := (List.getElem?_eq_some_iff.1 hu).1; rw [r.len hr] at this; exact this
          have h4 : i * r.n + j < xs.length * r.n := by
            have := Nat.mul_le_mul_right r.n (show i + 1 ≤ xs.length from hlt)
            rw [Nat.add_mul] at this; omega
          rw [List.getElem?_take_of_lt h4]
          simpa using h3
    have hbytes : (xs.length + ys.length) * i.bytes ≤ 140737488355328 := by
      have := Nat.mul_le_mul hlen hi4
      omega
    obtain ⟨v', w', hrun, ho', hg', hnone, hat⟩ := run_append_own_at (P := P) w lo t ty e i z r.n i.bytes he.u hi1 hi2 hi3 rfl hi5 he.pos v xs.length cs hown2 ⟨g, o, none⟩ ys.length c news hnl
      (fun j u hu => by rw [add_lit]; exact hncell j u hu) hn1 (by rw [maxLen_eq]; omega) hbytes hlo
    have hmut : Mut lo v.ownBlock e w w' := by
      refine ⟨(Below.refl _ _).grown hg' hlo (fun k hk => (hown.lt k hk).1), hg'.block, hmut0.typ⟩
    refine ⟨v', w', hrun, ?_, hmut, hat, by rw [hnone]; simp [hy]⟩
    rcases ho'.2 with ⟨rfl, h0⟩ | ⟨g2, cap2, cur, rfl, hb2, hh2, hn2, hc2, hs2, ht2⟩
    · exfalso
      have : ys.length ≠ 0 := fun h => hy (List.eq_nil_of_length_eq_zero h)
      omega
    · have hlen2 : (xs ++ ys).length = xs.length + ys.length := by simp
      refine .inr ⟨g2, cap2, cur, by rw [hlen2], hb2, hh2, by rw [hlen2]; exact hn2, hc2, hs2, fun k zz hz => ?_⟩
      have hcsl : cs.length = xs.length * r.n := hown2.1
      have hin : ∀ (j : Nat) (u : Value), (cs ++ news)[j]? = some u → cur[j]? = some u := by
        intro j u hu
        rw [← ht2, List.getElem?_take] at hu
        split at hu
        · simpa using hu
        · cases hu
      rcases Nat.lt_or_ge k xs.length with hk | hk
      · rw [List.getElem?_append_left hk] at hz
        obtain ⟨cs', hr, hj⟩ := hxs k zz hz
        refine ⟨cs', RP.wide (hmut.rel hr ht hel0) (Nat.le_refl _) hmut.size, fun j u hu => hin _ _ ?_⟩
        have := hj j u hu
        rw [List.getElem?_append_left (List.getElem?_eq_some_iff.1 this).1]
        exact this
      · rw [List.getElem?_append_right hk] at hz
        obtain ⟨cs', hr, hj⟩ := hnel _ zz hz
        have hhi : r.rel el w.heap.size w cs' zz := r.cap hr
        refine ⟨cs', RP.wide (hmut.rel hhi ht hel0) (Nat.le_refl _) hmut.size, fun j u hu => hin _ _ ?_⟩
        have := hj j u hu
        rw [List.getElem?_append_right (by rw [hcsl]; have := Nat.mul_le_mul_right r.n hk; omega), hcsl]
        rwa [show k * r.n + j - xs.length * r.n = (k - xs.length) * r.n + j from by
          have := Nat.mul_le_mul_right r.n hk
          rw [Nat.sub_mul]; omega]

theorem L_app {el : Nat} {ys zs : List α} {u : Value} (hk : ok1 ops f N d gd = true) (he : ET P t e r.n) (ht : e ∉ r.ts) (hx : ev f x = v) (hy : ev f y = u) (hown : Own r e lo el w v xs)
    (hs : (RP.slice e r).rel el hi w [u] ys) (happ : app xs ys = some zs) (hlo : lo ≤ w.heap.size) (hel0 : el ≤ lo)
    (h : ∀ v' w', Own r e lo el w' v' zs → Mut lo v.ownBlock e w w' → (v'.ownBlock = v.ownBlock ∨ v'.ownBlock = some w.heap.size) → L P N ops rest Q (upd f d v') w') :
    L P N ops (⟨some d, .call ⟨.builtin .append, #[x, y], #[t, t]⟩, ty, pos, af, gd⟩ :: rest) Q f w := by
  obtain ⟨hlen, rfl⟩ := app_some happ
  obtain ⟨v', w', hr, h1, h2, h3, _⟩ := run_app (ty := ty) he ht hown hs hlen hlo hel0
  exact L_pure hk (by simp [execOp, resolve, invoke, builtin, hx, hy, hr]) (h v' w' h1 h2 h3)
/-- make of a slice whose elements read as z0 -/
theorem L_mk {el : Nat} {n : Int} {z0 : α} {zc : List Value} (hk : ok1 ops f N d gd = true) (he : ET P t e r.n) (hz : ((P.info? e).bind (·.zero)).map (·.cells.toList) = some zc) (hrel : ∀ w, r.rel el w.heap.size w zc z0)
    (hx : ev f x = .int .i64 n) (hy : ev f y = .int .i64 n) (hm : mkN n z0 = some xs) (hlo : lo ≤ w.heap.size)
    (h : ∀ v' w', Own r e lo el w' v' xs → Ext w w' → v'.ownBlock = some w.heap.size → L P N ops rest Q (upd f d v') w') : L P N ops (⟨some d, .makeSlice t x y, ty, pos, af, gd⟩ :: rest) Q f w := by
  obtain ⟨h0, h1, rfl⟩ := mkN_some hm
  obtain ⟨i, z, hi1, hi2, hi3, hi4, hi5⟩ := he.info
  have hzc : z.cells.toList = zc := by simpa [hi1, hi2] using hz
  have hb : (i.bytes : Int) * n ≤ 281474976710656 := by
    have h4 : i.bytes * n.toNat ≤ 128 * 4294967296 := Nat.mul_le_mul hi4 (by omega)
    have h5 : (i.bytes : Int) * n = ((i.bytes * n.toNat : Nat) : Int) := by rw [Int.natCast_mul, Int.toNat_of_nonneg h0]
    rw [h5]; omega
  have hr := run_make (P := P) w t e i z he.u hi1 hi2 .i64 .i64 n n h0 (Int.le_refl _) hb (by omega)
  have hnew := new_alloc w e (madeCells z.cells (n.toNat * i.size))
  refine L_pure hk (by simp [execOp, hx, hy, hr]) (h _ _ (own_new (n := n.toNat) hnew (by simp) (by rw [size_madeCells, hi3]) (by rw [maxLen_eq]; omega) hlo ?_) hnew.ext rfl)
  intro k u hu
  rw [List.getElem?_replicate] at hu
  split at hu
  · rename_i hkl
    injection hu with hu
    subst hu
    refine ⟨zc, hrel w, fun j v hj => ?_⟩
    have hjl : j < r.n := by have := (List.getElem?_eq_some_iff.1 hj).1; rw [r.len (hrel w)] at this; exact this
    have hkj : k * r.n + j < n.toNat * i.size := by
      rw [hi3]
      have := Nat.mul_le_mul_right r.n (show k + 1 ≤ n.toNat from hkl)
      rw [Nat.add_mul] at this; omega
    have hmod : (k * r.n + j) % z.cells.size = j := by rw [hi5, Nat.mul_comm, Nat.mul_add_mod, Nat.mod_eq_of_lt hjl]
    unfold madeCells
    rw [Array.getElem?_map, Array.getElem?_range, if_pos hkj]
    simp only [Option.map_some, hmod]
    rw [← hzc] at hj
    have hj2 : z.cells[j]? = some v := by simpa using hj
    rw [getElem!_def, hj2]
  · cases hu
/-- the address of an element of the call's own slice; what a store there leaves -/
theorem L_ixo {el : Nat} {k : Int} {z : α} (hk : ok1 ops f N d gd = true) (he : ET P t e r.n) (hx : ev f x = v) (hown : Own r e lo el w v xs) (hy : ev f y = .int .i64 k) (hi' : idx xs k = some z)
    (h : ∀ g c cs, v.ownBlock = some g → lo ≤ g → Blk w g e c → r.rel el w.heap.size w cs z → (∀ j u, cs[j]? = some u → c[k.toNat * r.n + j]? = some u) → L P N ops rest Q (upd f d (.pointer (some ⟨g, k.toNat * r.n, none⟩))) w) :
    L P N ops (⟨some d, .indexAddr t x y, ty, pos, af, gd⟩ :: rest) Q f w := by
  obtain ⟨h0, hz, hlt⟩ := idx_some hi'
  rcases hown with ⟨rfl, rfl⟩ | ⟨g, cap, c, rfl, hlo, hb, h1, h2, hsz, hel⟩
  · simp at hlt
  · obtain ⟨cs, hr, hj⟩ := hel _ _ hz
    refine L_pure hk ?_ (h g c cs rfl hlo hb hr hj)
    have hlt' : k < (xs.length : Int) := by omega
    simp [execOp, hx, hy, Instr.indexAt, asIntOf, run_underlying he.u, h0, hlt', he.sz, add_lit]
theorem own_set {el : Nat} {k : Nat} {z : α} {g : Nat} {w' : World} {c : Array Value} {u : Value} (hown : Own r e lo el w v xs) (hg : v.ownBlock = some g) (hn : r.n = 1) (ht : e ∉ r.ts) (hkl : k < xs.length)
    (hb : Blk w g e c) (hp : Put w w' g e (c.setIfInBounds (k * r.n) u)) (hr : r.rel el w.heap.size w [u] z) (hel0 : el ≤ lo) : Own r e lo el w' v (xs.set k z) := by
  rcases hown with ⟨rfl, rfl⟩ | ⟨g', cap, c', rfl, hlo, hb', h1, h2, hsz, hel⟩
  · simp [Value.ownBlock] at hg
  · simp [Value.ownBlock] at hg
    subst hg
    have hcc : c = c' := by
      unfold Blk at hb hb'
      rw [hb] at hb'
      injection hb' with hb'
      injection hb'
    subst hcc
    refine .inr ⟨g', cap, _, by simp, hlo, hp.blk, by simpa using h1, h2, by simpa using hsz, fun i zz hz => ?_⟩
    have hin : k * r.n < c.size := by rw [hsz]; exact Nat.mul_lt_mul_of_pos_right (Nat.lt_of_lt_of_le hkl h1) (by omega)
    rw [List.getElem?_set] at hz
    split at hz
    · rename_i hki
      subst hki
      injection hz with hz
      subst hz
      refine ⟨[u], RP.wide (hp.mu.rel hr ht (Nat.le_trans hel0 hlo)) (Nat.le_refl _) hp.mu.size, fun j v hj => ?_⟩
      cases j with
      | zero => simp at hj; subst hj; simp [hin]
      | succ j => simp at hj
    · obtain ⟨cs, hr2, hj2⟩ := hel i zz hz
      refine ⟨cs, RP.wide (hp.mu.rel hr2 ht (Nat.le_trans hel0 hlo)) (Nat.le_refl _) hp.mu.size, fun j v hj => ?_⟩
      have hjl : j < 1 := by have := (List.getElem?_eq_some_iff.1 hj).1; rw [r.len hr2, hn] at this; exact this
      rw [Array.getElem?_setIfInBounds_ne (by rw [hn]; omega)]
      exact hj2 j v hj
/-- a part of a block is stored -/
theorem L_stp {t tb : TypeId} {g o n : Nat} {cs vs : Array Value} (hk : ok0 ops f gd = true) (hsz : ∀ w, (sizeOf t).run P w = .ok n w)
    (hx : ev f x = .pointer (some ⟨g, o, none⟩)) (hy : ev f y = .agg vs) (hn : vs.size = n) (h1 : ∀ u ∈ vs.toList, u.oneCell' = true) (hb : Blk w g tb cs) (hc : o + n ≤ cs.size)
    (h : ∀ w' cs', Put w w' g tb cs' → cs'.size = cs.size → (∀ j u, vs.toList[j]? = some u → cs'[o + j]? = some u) → (∀ j, j < o ∨ o + n ≤ j → cs'[j]? = cs[j]?) → L P N ops rest Q f w') :
    L P N ops (⟨none, .store t x y, ty, pos, af, gd⟩ :: rest) Q f w := by
  obtain ⟨w', hr, hm, cs', hb', hs', hin, hout⟩ := run_storeCells (P := P) tb g o vs.toList 0 cs w hb (by simp; omega) h1
  refine L_none hk ?_ (h w' cs' ⟨hb', hm⟩ hs' (fun j u hj => by simpa using hin j u hj) fun j hj => hout j (by simp; omega))
  simp [execOp, hx, hy, Instr.storeAt, Instr.sureAddr, storeVar, hsz, Value.cells, hn, hr]
theorem own_setN {el : Nat} {k : Nat} {z : α} {g : Nat} {w' : World} {c c2 : Array Value} {us : List Value} (hown : Own r e lo el w v xs) (hg : v.ownBlock = some g) (ht : e ∉ r.ts) (hkl : k < xs.length)
    (hb : Blk w g e c) (hp : Put w w' g e c2) (hsz2 : c2.size = c.size) (hin : ∀ j u, us[j]? = some u → c2[k * r.n + j]? = some u) (hout : ∀ j, j < k * r.n ∨ k * r.n + r.n ≤ j → c2[j]? = c[j]?)
    (hr : r.rel el w.heap.size w us z) (hel0 : el ≤ lo) : Own r e lo el w' v (xs.set k z) := by
  rcases hown with ⟨rfl, rfl⟩ | ⟨g', cap, c', rfl, hlo, hb', h1, h2, hsz, hel⟩
  · simp [Value.ownBlock] at hg
  · simp [Value.ownBlock] at hg
    subst hg
    have hcc : c = c' := by
      unfold Blk at hb hb'
      rw [hb] at hb'
      injection hb' with hb'
      injection hb'
    subst hcc
    refine .inr ⟨g', cap, c2, by simp, hlo, hp.blk, by simpa using h1, h2, by rw [hsz2, hsz], fun i zz hz => ?_⟩
    rw [List.getElem?_set] at hz
    split at hz
    · rename_i hki
      subst hki
      injection hz with hz
      subst hz
      exact ⟨us, RP.wide (hp.mu.rel hr ht (Nat.le_trans hel0 hlo)) (Nat.le_refl _) hp.mu.size, hin⟩
    · rename_i hne
      obtain ⟨cs, hr2, hj2⟩ := hel i zz hz
      refine ⟨cs, RP.wide (hp.mu.rel hr2 ht (Nat.le_trans hel0 hlo)) (Nat.le_refl _) hp.mu.size, fun j v hj => ?_⟩
      have hjl : j < r.n := by have := (List.getElem?_eq_some_iff.1 hj).1; rw [r.len hr2] at this; exact this
      rw [hout, hj2 j v hj]
      rcases Nat.lt_or_gt_of_ne hne with hlt | hlt
      · right
        have := Nat.mul_le_mul_right r.n (show k + 1 ≤ i from hlt)
        rw [Nat.add_mul] at this; omega
      · left
        have := Nat.mul_le_mul_right r.n (show i + 1 ≤ k from hlt)
        rw [Nat.add_mul] at this; omega
theorem own_fit {el : Nat} {k : Nat} {g : Nat} {c : Array Value} (hown : Own r e lo el w v xs) (hg : v.ownBlock = some g) (hkl : k < xs.length) (hb : Blk w g e c) : k * r.n + r.n ≤ c.size := by
  rcases hown with ⟨rfl, rfl⟩ | ⟨g', cap, c', rfl, hlo, hb', h1, h2, hsz, hel⟩
  · simp [Value.ownBlock] at hg
  · simp [Value.ownBlock] at hg
    subst hg
    have hcc : c = c' := by
      unfold Blk at hb hb'
      rw [hb] at hb'
      injection hb' with hb'
      injection hb'
    subst hcc
    rw [hsz]
    have := Nat.mul_le_mul_right r.n (show k + 1 ≤ cap by omega)
    rw [Nat.add_mul] at this; omega
end
/-! calls -/
section
variable {fid : FuncId} {args : Array Value} {ats : Array TypeId} {R : Value → World → Prop}
theorem L_call {xs : Array Operand} (hk : ok1 ops f N d gd = true) (hcall : ∀ args w, (callFunc fid args).run P w = .ok (.enter fid args) w) (ha : xs.map (ev f) = args)
    (hc : C P fid args w R) (h : ∀ v w', R v w' → L P N ops rest Q (upd f d v) w') : L P N ops (⟨some d, .call ⟨.value (.func fid), xs, ats⟩, ty, pos, af, gd⟩ :: rest) Q f w := by
  unfold ok1 at hk
  rw [Bool.and_eq_true] at hk
  refine L_enter (by cases gd <;> exact hk.1) rfl (Nat.le_of_ble_eq_true hk.2) ?_ hc h
  subst ha
  simp [execOp, resolve, ev, Deferred.ofValue, invoke, hcall]
theorem L_call0 {xs : Array Operand} (hk : ok0 ops f gd = true) (hcall : ∀ args w, (callFunc fid args).run P w = .ok (.enter fid args) w) (ha : xs.map (ev f) = args)
    (hc : C P fid args w R) (h : ∀ v w', R v w' → L P N ops rest Q f w') : L P N ops (⟨none, .call ⟨.value (.func fid), xs, ats⟩, ty, pos, af, gd⟩ :: rest) Q f w := by
  refine L_enter_eff (by cases gd <;> exact hk) rfl ?_ hc h
  subst ha
  simp [execOp, resolve, ev, Deferred.ofValue, invoke, hcall]
theorem L_callv {xs : Array Operand} {fo : Operand} {caps : Array Value} (hk : ok1 ops f N d gd = true) (hcall : ∀ args w, (callFunc fid args).run P w = .ok (.enter fid args) w)
    (hf : ev f fo = .func (.func fid) #[] caps) (ha : xs.map (ev f) = args)
    (hc : C P fid (args ++ caps) w R) (h : ∀ v w', R v w' → L P N ops rest Q (upd f d v) w') : L P N ops (⟨some d, .call ⟨.value fo, xs, ats⟩, ty, pos, af, gd⟩ :: rest) Q f w := by
  unfold ok1 at hk
  rw [Bool.and_eq_true] at hk
  refine L_enter (by cases gd <;> exact hk.1) rfl (Nat.le_of_ble_eq_true hk.2) ?_ hc h
  subst ha
  simp [execOp, resolve, hf, Deferred.ofValue, invoke, hcall]
theorem ops0 : (#[] : Array Operand).map (ev f) = #[] := by simp
theorem ops1 {a : Operand} {u : Value} (h1 : ev f a = u) : #[a].map (ev f) = #[u] := by simp [h1]
theorem ops2 {a b : Operand} {u v : Value} (h1 : ev f a = u) (h2 : ev f b = v) : #[a, b].map (ev f) = #[u, v] := by simp [h1, h2]
theorem ops3 {a b c : Operand} {u v z : Value} (h1 : ev f a = u) (h2 : ev f b = v) (h3 : ev f c = z) : #[a, b, c].map (ev f) = #[u, v, z] := by simp [h1, h2, h3]
theorem ops4 {a b c e : Operand} {u v z y : Value} (h1 : ev f a = u) (h2 : ev f b = v) (h3 : ev f c = z) (h4 : ev f e = y) : #[a, b, c, e].map (ev f) = #[u, v, z, y] := by simp [h1, h2, h3, h4]
end
end rules
end Go.E
