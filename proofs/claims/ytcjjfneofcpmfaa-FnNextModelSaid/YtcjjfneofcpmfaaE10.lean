/- Drawn data that is not followed exactly: any data that the rest answers alike for ('anyM'), and a store into a row that lies deep in fresh data. -/
import Derived.Test.YtcjjfneofcpmfaaE7
namespace Go.E
open Go Go.RowKit
set_option linter.unusedVariables false

open Classical in
/-- what f answers for all data of P alike -/
noncomputable def anyM {α β : Type} (P : α → Prop) (f : α → Option β) : Option β := if h : ∃ r, ∀ o, P o → f o = some r then some h.choose else none
theorem anyM_some {α β : Type} {P : α → Prop} {f : α → Option β} {r : β} (h : anyM P f = some r) : ∀ o, P o → f o = some r := by
  unfold anyM at h
  split at h
  next hx => intro o ho; rw [hx.choose_spec o ho, h]
  next => cases h
theorem anyM_intro {α β : Type} {P : α → Prop} {f : α → Option β} {r : β} {o0 : α} (h0 : P o0) (h : ∀ o, P o → f o = some r) : anyM P f = some r := by
  have hx : ∃ r, ∀ o, P o → f o = some r := ⟨r, h⟩
  unfold anyM
  rw [dif_pos hx]
  have := hx.choose_spec o0 h0
  rw [h o0 h0] at this
  exact this.symm
noncomputable def anyB {α β : Type} (e : Option Unit) (P : α → Prop) (f : α → Option β) : Option β := e.bind fun _ => anyM P f
theorem anyB_some {α β : Type} {e : Option Unit} {P : α → Prop} {f : α → Option β} {r : β} (h : anyB e P f = some r) : e = some () ∧ ∀ o, P o → f o = some r := by
  unfold anyB at h
  cases e with
  | none => cases h
  | some u => exact ⟨rfl, anyM_some h⟩
theorem anyB_intro {α β : Type} {e : Option Unit} {P : α → Prop} {f : α → Option β} {r : β} {o0 : α} (he : e = some ()) (h0 : P o0) (h : ∀ o, P o → f o = some r) : anyB e P f = some r := by
  subst he; exact anyM_intro h0 h
open Classical in
noncomputable def assertM (P : Prop) : Option Unit := if P then some () else none
theorem assertM_some {P : Prop} {u : Unit} (h : assertM P = some u) : P := by
  unfold assertM at h
  split at h
  next hp => exact hp
  next => cases h
theorem assertM_intro {P : Prop} (h : P) : assertM P = some () := by unfold assertM; rw [if_pos h]

/-! ### rows that are known to be fresh -/
def RP.sliceN {α : Type} (L : Nat) (t : TypeId) (r : RP α) : RP (List α) where
  n := 1
  ts := t :: r.ts
  rel lo hi w cs xs := (RP.slice t r).rel lo hi w cs xs ∧ (xs ≠ [] → ∃ g o len cap c, cs = [.slice (some ⟨g, o, none⟩) len cap] ∧ L ≤ g ∧ Blk w g t c)
  len h := (RP.slice t r).len h.1
  one h := (RP.slice t r).one h.1
  keep := by
    rintro lo hi lo' hi' w w' cs xs ⟨h, hN⟩ hl hh hk
    refine ⟨(RP.slice t r).keep h hl hh hk, fun hx => ?_⟩
    obtain ⟨g, o, len, cap, c, rfl, hL, hb⟩ := hN hx
    refine ⟨g, o, len, cap, c, rfl, hL, ?_⟩
    obtain ⟨base, cap', hcs, _, _, he⟩ := h
    obtain ⟨g', o', c', t', fz, hbase, hg2, _⟩ := he hx
    subst hbase
    simp at hcs
    obtain ⟨⟨rfl, rfl⟩, _⟩ := hcs
    exact hk g c t (0, 0) hg2 (.inl (by simp)) hb
  cap := by
    rintro lo hi w cs xs ⟨h, hN⟩
    exact ⟨(RP.slice t r).cap h, hN⟩
theorem ownN {α : Type} {r : RP α} {t : TypeId} {L lo el : Nat} {w : World} {v : Value} {xs : List α} (h : Own r t lo el w v xs) (hL : L ≤ lo) : (RP.sliceN L t r).rel el w.heap.size w [v] xs := by
  refine ⟨h.rel, fun hx => ?_⟩
  rcases h with ⟨_, rfl⟩ | ⟨g, cap, c, rfl, hlo, hb, _⟩
  · exact absurd rfl hx
  · exact ⟨g, 0, _, cap, c, rfl, Nat.le_trans hL hlo, hb⟩
theorem slice_weak {α : Type} {r r' : RP α} {t : TypeId} {lo hi : Nat} {w : World} {cs : List Value} {xs : List α} (hn : r.n = r'.n) (hw : ∀ {cs x}, r.rel lo hi w cs x → r'.rel lo hi w cs x) (h : (RP.slice t r).rel lo hi w cs xs) : (RP.slice t r').rel lo hi w cs xs := by
  obtain ⟨base, cap, hcs, h1, h2, he⟩ := h
  refine ⟨base, cap, hcs, h1, h2, fun hx => ?_⟩
  obtain ⟨g, o, c, t', fz, hb, hg2, hg1, hc, hel⟩ := he hx
  refine ⟨g, o, c, t', fz, hb, hg2, hg1, hc, fun i x hi => ?_⟩
  obtain ⟨cs', hr, hj⟩ := hel i x hi
  exact ⟨cs', hw hr, by rw [← hn]; exact hj⟩
def rRuleN (L ti tis : Nat) : RP Rule := RP.map (fun r => (r.kind, r.vars, r.coefs, r.bound, r.rows))
  (RP.pair RP.int (RP.pair (RP.sliceN L ti RP.int) (RP.pair (RP.sliceN L ti RP.int) (RP.pair RP.int (RP.sliceN L tis (RP.sliceN L ti RP.int))))))
theorem rRuleN_ts {L ti tis : Nat} : (rRuleN L ti tis).ts = [ti, ti, tis, ti] := rfl
theorem sliceN_ts {α : Type} {L : Nat} {t : TypeId} {r : RP α} : (RP.sliceN L t r).ts = t :: r.ts := rfl
theorem int_ts : RP.int.ts = [] := rfl
theorem sliceN1 {α : Type} {L : Nat} {r : RP α} {t : TypeId} {lo hi : Nat} {w : World} {cs : List Value} {xs : List α} (h : (RP.sliceN L t r).rel lo hi w cs xs) : ∃ v, cs = [v] ∧ (RP.sliceN L t r).rel lo hi w [v] xs := by
  obtain ⟨v, rfl, _⟩ := slice1 h.1
  exact ⟨v, rfl, h⟩
theorem rRuleN_iff {L ti tis lo hi : Nat} {w : World} {cs : List Value} {r : Rule} : (rRuleN L ti tis).rel lo hi w cs r ↔ ∃ v1 v2 v3, cs = [.int .i64 r.kind, v1, v2, .int .i64 r.bound, v3] ∧ (RP.sliceN L ti RP.int).rel lo hi w [v1] r.vars ∧
    (RP.sliceN L ti RP.int).rel lo hi w [v2] r.coefs ∧ (RP.sliceN L tis (RP.sliceN L ti RP.int)).rel lo hi w [v3] r.rows := by
  show (RP.pair RP.int (RP.pair (RP.sliceN L ti RP.int) (RP.pair (RP.sliceN L ti RP.int) (RP.pair RP.int (RP.sliceN L tis (RP.sliceN L ti RP.int)))))).rel lo hi w cs (r.kind, r.vars, r.coefs, r.bound, r.rows) ↔ _
  simp only [pair1 (a := RP.int) rfl, pair1 (a := RP.sliceN L ti RP.int) rfl]
  constructor
  · rintro ⟨v, c2, rfl, h1, v1, c3, rfl, h2, v2, c4, rfl, h3, v3, c5, rfl, h4, h5⟩
    rw [int_iff] at h1 h4
    simp at h1 h4
    obtain ⟨u, rfl, h6⟩ := sliceN1 h5
    exact ⟨v1, v2, u, by simp [h1, h4], h2, h3, h6⟩
  · rintro ⟨v1, v2, v3, rfl, h1, h2, h3⟩
    exact ⟨_, _, rfl, rfl, _, _, rfl, h1, _, _, rfl, h2, _, _, rfl, rfl, h3⟩
theorem rRuleN_weak {L ti tis lo hi : Nat} {w : World} {cs : List Value} {r : Rule} (h : (rRuleN L ti tis).rel lo hi w cs r) : (rRule ti tis).rel lo hi w cs r := by
  obtain ⟨v1, v2, v3, rfl, h1, h2, h3⟩ := rRuleN_iff.1 h
  exact rRule_iff.2 ⟨v1, v2, v3, rfl, h1.1, h2.1, slice_weak (r := RP.sliceN L ti RP.int) (r' := RP.slice ti RP.int) rfl (fun h => h.1) h3.1⟩
theorem sliceN_mono {α : Type} {r : RP α} {t : TypeId} {L L' lo hi : Nat} {w : World} {cs : List Value} {xs : List α} (h : (RP.sliceN L t r).rel lo hi w cs xs) (hL : L' ≤ L) : (RP.sliceN L' t r).rel lo hi w cs xs := by
  refine ⟨h.1, fun hx => ?_⟩
  obtain ⟨g, o, len, cap, c, h1, h2, h3⟩ := h.2 hx
  exact ⟨g, o, len, cap, c, h1, Nat.le_trans hL h2, h3⟩
theorem own_weak {α : Type} {r r' : RP α} {t : TypeId} {lo el : Nat} {w : World} {v : Value} {xs : List α} (hn : r.n = r'.n) (hw : ∀ {lo hi w cs x}, r.rel lo hi w cs x → r'.rel lo hi w cs x) (h : Own r t lo el w v xs) : Own r' t lo el w v xs := by
  rcases h with h | ⟨g, cap, c, rfl, hlo, hb, h1, h2, hs, he⟩
  · exact .inl h
  · refine .inr ⟨g, cap, c, rfl, hlo, hb, h1, h2, by rw [← hn]; exact hs, fun i x hi => ?_⟩
    obtain ⟨cs', hr, hc⟩ := he i x hi
    exact ⟨cs', hw hr, by rw [← hn]; exact hc⟩
theorem ownR {L ti tis t lo el : Nat} {w : World} {v : Value} {xs : List Rule} (h : Own (rRuleN L ti tis) t lo el w v xs) : (RP.slice t (rRule ti tis)).rel el w.heap.size w [v] xs :=
  (own_weak (r := rRuleN L ti tis) (r' := rRule ti tis) rfl rRuleN_weak h).rel
theorem ownW {L ti tis t lo el : Nat} {w : World} {v : Value} {xs : List Rule} (h : Own (rRuleN L ti tis) t lo el w v xs) : Own (rRule ti tis) t lo el w v xs := own_weak (r := rRuleN L ti tis) (r' := rRule ti tis) rfl rRuleN_weak h

/-! ### a reading that does not reach a row -/
def SepR {α : Type} (r : RP α) (row : Option Nat) (lo hi : Nat) (w : World) (cs : List Value) (x : α) : Prop :=
  hi ≤ w.heap.size ∧ ∀ w', (∀ g c t fz, g < hi → (t ∈ r.ts ∨ g < lo) → some g ≠ row → w.heap[g]? = some (.cells c t fz) → w'.heap[g]? = some (.cells c t fz)) → r.rel lo hi w' cs x
section
variable {α : Type} {r : RP α} {row row2 row' : Option Nat} {lo hi lo' : Nat} {w w' : World} {cs : List Value} {x : α} {t : TypeId}
theorem SepR.rel (h : SepR r row lo hi w cs x) : r.rel lo hi w cs x := h.2 w fun _ _ _ _ _ _ _ h => h
theorem SepR.ext (h : SepR r row lo hi w cs x) (e : Ext w w') : SepR r row lo hi w' cs x :=
  ⟨Nat.le_trans h.1 e.size, fun w2 k => h.2 w2 fun g c t fz hg ht hn hc => k g c t fz hg ht hn ((e.block g (Array.getElem?_eq_some_iff.1 hc).1).trans hc)⟩
theorem SepR.mut (h : SepR r row lo hi w cs x) (m : Mut lo' row' t w w') (hne : t ∉ r.ts) (hB : lo ≤ lo') : SepR r row lo hi w' cs x :=
  ⟨Nat.le_trans h.1 m.size, fun w2 k => h.2 w2 fun g c t2 fz hg ht hn hc => k g c t2 fz hg ht hn (by
    rcases ht with ht | ht
    case inr => exact (m.below.block g (Nat.lt_of_lt_of_le ht hB)).trans hc
    refine (m.only g (Array.getElem?_eq_some_iff.1 hc).1 ?_).trans hc
    intro e
    have := m.typ g c t2 fz e.symm hc
    exact hne (this ▸ ht))⟩
theorem SepR.app (h : SepR r row lo hi w cs x) (m : Mut lo' row t w w') (hr : row2 = row ∨ row2 = some w.heap.size) : SepR r row2 lo hi w' cs x :=
  ⟨Nat.le_trans h.1 m.size, fun w2 k => h.2 w2 fun g c t2 fz hg ht hn hc => k g c t2 fz hg ht (by
    rcases hr with rfl | rfl
    · exact hn
    · intro e; injection e with e; have := h.1; omega) ((m.only g (Array.getElem?_eq_some_iff.1 hc).1 hn).trans hc)⟩
end
theorem sepN {α : Type} {r r' : RP α} {t : TypeId} {L lo hi : Nat} {w w' : World} {cs : List Value} {xs : List α} (hn : r.n = r'.n) (h : (RP.sliceN L t r).rel lo hi w cs xs)
    (hk : ∀ g c fz, g < hi → L ≤ g → w.heap[g]? = some (.cells c t fz) → w'.heap[g]? = some (.cells c t fz)) (hr : ∀ {cs x}, r.rel lo hi w cs x → r'.rel lo hi w' cs x) : (RP.slice t r').rel lo hi w' cs xs := by
  obtain ⟨⟨base, cap, hcs, h1, h2, he⟩, hN⟩ := h
  refine ⟨base, cap, hcs, h1, h2, fun hx => ?_⟩
  obtain ⟨g, o, c, t', fz, hb, hg2, hg1, hc, hel⟩ := he hx
  obtain ⟨g1, o1, len1, cap1, c1, hcs1, hL, hb1⟩ := hN hx
  subst hb
  subst hcs
  simp at hcs1
  obtain ⟨⟨rfl, rfl⟩, _⟩ := hcs1
  have hb2 := hb1
  unfold Blk at hb2
  rw [hb2] at hc
  injection hc with hc
  injection hc with e1 e2 e3
  subst e1; subst e2; subst e3
  refine ⟨g, o, c1, t, _, rfl, hg2, fun _ => rfl, hk g c1 _ hg2 hL hb1, fun i x hi => ?_⟩
  obtain ⟨cs', hr', hj⟩ := hel i x hi
  exact ⟨cs', hr hr', by rw [← hn]; exact hj⟩
theorem sep_rules {L ti tis tr lo lo2 el : Nat} {w : World} {v u : Value} {xs : List Rule} {ys : List Int} (h : Own (rRuleN L ti tis) tr lo el w v xs) (hs : Own RP.int ti lo2 el w u ys) (hL : ∀ k, u.ownBlock = some k → k < L) (hne : tr ≠ ti) :
    SepR (RP.slice tr (rRule ti tis)) u.ownBlock el w.heap.size w [v] xs := by
  refine ⟨Nat.le_refl _, fun w' hk => ?_⟩
  rcases h with ⟨rfl, rfl⟩ | ⟨g, cap, c, rfl, hlo, hb, h1, h2, hsz, hel⟩
  · exact slice_nil _ _ _ _ _ (by simp)
  have hrow : some g ≠ u.ownBlock := by
    intro e
    rcases hs with ⟨rfl, _⟩ | ⟨g2, cap2, c2, rfl, _, hb2, _⟩
    · simp [Value.ownBlock] at e
    · simp [Value.ownBlock] at e
      subst e
      unfold Blk at hb hb2
      rw [hb] at hb2
      injection hb2 with hb2
      injection hb2 with _ e2 _
      exact hne e2
  refine ⟨_, cap, rfl, h1, h2, fun _ => ⟨g, 0, c, tr, _, rfl, hb.lt, fun _ => rfl, hk g c tr _ hb.lt (.inl (by simp [RP.slice])) hrow hb, fun i x hi => ?_⟩⟩
  obtain ⟨cs', hr, hj⟩ := hel i x hi
  refine ⟨cs', ?_, fun j u hu => by rw [Nat.zero_add]; exact hj j u hu⟩
  obtain ⟨v1, v2, v3, rfl, k1, k2, k3⟩ := rRuleN_iff.1 hr
  have hfar : ∀ g', L ≤ g' → some g' ≠ u.ownBlock := fun g' hg' e => by have := hL g' e.symm; omega
  have hki : ∀ g' c' fz, g' < w.heap.size → L ≤ g' → w.heap[g']? = some (.cells c' ti fz) → w'.heap[g']? = some (.cells c' ti fz) := fun g' c' fz hg hl hc => hk g' c' ti fz hg (.inl (by simp [RP.slice, rRule, RP.map, RP.pair])) (hfar g' hl) hc
  have hks : ∀ g' c' fz, g' < w.heap.size → L ≤ g' → w.heap[g']? = some (.cells c' tis fz) → w'.heap[g']? = some (.cells c' tis fz) := fun g' c' fz hg hl hc => hk g' c' tis fz hg (.inl (by simp [RP.slice, rRule, RP.map, RP.pair])) (hfar g' hl) hc
  exact rRule_iff.2 ⟨v1, v2, v3, rfl, sepN rfl k1 hki (fun h => h), sepN rfl k2 hki (fun h => h), sepN (r := RP.sliceN L ti RP.int) (r' := RP.slice ti RP.int) rfl k3 hks fun h => sepN rfl h hki (fun h => h)⟩

/-! ### one number of a fresh row takes another value -/
def Soft (L : Nat) (ti : TypeId) (n : Int) (w w' : World) : Prop := ∃ g o c old, L ≤ g ∧ Blk w g ti c ∧ c[o]? = some (.int .i64 old) ∧ Put w w' g ti (c.setIfInBounds o (.int .i64 n))
def SoftR {α : Type} (ti : TypeId) (r : RP α) (good : α → Prop) : Prop := ∀ {L : Nat} {n : Int} {w w' : World} {lo hi : Nat} {cs : List Value} {x : α}, Soft L ti n w w' → lo ≤ L → r.rel lo hi w cs x → good x → ∃ x', r.rel lo hi w' cs x' ∧ good x'
def sInts (xs : List Int) : Prop := xs.length ≤ 1000
def sOut (xs : List Int) : Prop := xs.length ≤ 2000
def sIntss (xs : List (List Int)) : Prop := xs.length ≤ 1000 ∧ ∀ x ∈ xs, sInts x
def sBools (xs : List Bool) : Prop := xs.length ≤ 1000
def sRule (r : Rule) : Prop := sInts r.vars ∧ sInts r.coefs ∧ sIntss r.rows
def sRules (xs : List Rule) : Prop := xs.length ≤ 1000 ∧ ∀ x ∈ xs, sRule x
def sModel (m : Model) : Prop := sInts m.sizes ∧ sRules m.rules
theorem choose_list {α : Type} {Q : Nat → α → Prop} {xs : List α} (h : ∀ i x, xs[i]? = some x → ∃ y, Q i y) : ∃ ys : List α, ys.length = xs.length ∧ ∀ i y, ys[i]? = some y → Q i y := by
  have h2 : ∀ i : Fin xs.length, ∃ y, Q i.val y := fun i => h i.val xs[i.val] (List.getElem?_eq_getElem i.isLt)
  refine ⟨List.ofFn fun i => (h2 i).choose, by simp, fun i y hy => ?_⟩
  rw [List.getElem?_ofFn] at hy
  split at hy
  next hi => injection hy with hy; rw [← hy]; exact (h2 ⟨i, hi⟩).choose_spec
  next => cases hy
section
variable {α : Type} {r : RP α} {good : α → Prop} {L lo el : Nat} {n : Int} {w w' : World} {v : Value} {t ti : TypeId}
theorem soft_only (hs : Soft L ti n w w') {g : Nat} {c : Array Value} {t' : TypeId} {fz : Nat × Nat} (hc : w.heap[g]? = some (.cells c t' fz)) (hne : t' ≠ ti ∨ g < L) : w'.heap[g]? = some (.cells c t' fz) := by
  obtain ⟨g0, o, c0, old, hL, hb, ho, hp⟩ := hs
  refine (hp.mu.only g (Array.getElem?_eq_some_iff.1 hc).1 ?_).trans hc
  intro e
  injection e with e
  subst e
  rcases hne with hne | hne
  · unfold Blk at hb; rw [hb] at hc; injection hc with hc; injection hc with _ ht _; exact hne ht.symm
  · omega
theorem soft_int (hs : Soft L ti n w w') {g : Nat} {c : Array Value} {t' : TypeId} {fz : Nat × Nat} (hc : w.heap[g]? = some (.cells c t' fz)) :
    ∃ c' : Array Value, w'.heap[g]? = some (.cells c' t' fz) ∧ c'.size = c.size ∧ ∀ (j : Nat) (x : Int), c[j]? = some (Value.int .i64 x) → c'[j]? = some (Value.int .i64 x) ∨ c'[j]? = some (Value.int .i64 n) := by
  obtain ⟨g0, o, c0, old, hL, hb, ho, hp⟩ := hs
  by_cases e : g = g0
  · subst e
    have hb0 := hb
    unfold Blk at hb; rw [hb] at hc; injection hc with hc; injection hc with h1 h2 h3
    subst h1; subst h2; subst h3
    refine ⟨_, hp.blk, by simp, fun j x hj => ?_⟩
    by_cases ej : o = j
    · subst ej
      right
      simp [(Array.getElem?_eq_some_iff.1 hj).1]
    · left
      rw [Array.getElem?_setIfInBounds_ne ej]; exact hj
  · exact ⟨c, (hp.mu.only g (Array.getElem?_eq_some_iff.1 hc).1 (by intro h; injection h with h; exact e h)).trans hc, rfl, fun j x hj => .inl hj⟩
theorem softR_ints : SoftR ti (RP.slice ti RP.int) sInts := by
  intro L n w w' lo hi cs xs hs hl ⟨base, cap, hcs, h1, h2, he⟩ hg
  by_cases hx : xs = []
  · exact ⟨xs, ⟨base, cap, hcs, h1, h2, fun h => absurd hx h⟩, hg⟩
  obtain ⟨g, o, c, t', fz, hb, hg2, hg1, hc, hel⟩ := he hx
  obtain ⟨c', hc', _, hcell⟩ := soft_int hs hc
  have hyp : ∀ i x, xs[i]? = some x → ∃ y, c'[o + i]? = some (Value.int .i64 y) := by
    intro i x hi
    obtain ⟨cs', hr, hcs'⟩ := hel i x hi
    have hr : cs' = [.int .i64 x] := hr
    subst hr
    have := hcs' 0 _ rfl
    rcases hcell _ _ this with h | h
    · exact ⟨x, by simpa [RP.int, RP.single] using h⟩
    · exact ⟨n, by simpa [RP.int, RP.single] using h⟩
  obtain ⟨ys, hlen, hys⟩ := choose_list (Q := fun (i : Nat) y => c'[o + i]? = some (Value.int .i64 y)) hyp
  refine ⟨ys, ⟨base, cap, by rw [hlen]; exact hcs, by omega, h2, fun _ => ⟨g, o, c', t', fz, hb, hg2, hg1, hc', fun i y hi => ⟨[.int .i64 y], rfl, fun j u hj => ?_⟩⟩⟩, by unfold sInts at *; omega⟩
  · cases j with
    | zero => simp at hj; subst hj; simpa [RP.int, RP.single] using hys i y hi
    | succ j => simp at hj
theorem softR_slice (hne : t ≠ ti) (hr : SoftR ti r good) : SoftR ti (RP.slice t r) (fun xs => xs.length ≤ 1000 ∧ ∀ x ∈ xs, good x) := by
  intro L n w w' lo hi cs xs hs hl ⟨base, cap, hcs, h1, h2, he⟩ hg
  by_cases hx : xs = []
  · exact ⟨xs, ⟨base, cap, hcs, h1, h2, fun h => absurd hx h⟩, hg⟩
  obtain ⟨g, o, c, t', fz, hb, hg2, hg1, hc, hel⟩ := he hx
  have hc' := soft_only hs hc (by
    rcases Nat.lt_or_ge g L with h | h
    · exact .inr h
    · exact .inl (by rw [hg1 (by omega)]; exact hne))
  have hyp : ∀ i x, xs[i]? = some x → ∃ y, good y ∧ ∃ cs', r.rel lo hi w' cs' y ∧ ∀ j v, cs'[j]? = some v → c[o + i * r.n + j]? = some v := by
    intro i x hi
    obtain ⟨cs', hr', hcs'⟩ := hel i x hi
    obtain ⟨y, hy, hgy⟩ := hr hs hl hr' (hg.2 x (List.mem_of_getElem? hi))
    exact ⟨y, hgy, cs', hy, hcs'⟩
  obtain ⟨ys, hlen, hys⟩ := choose_list hyp
  refine ⟨ys, ⟨base, cap, by rw [hlen]; exact hcs, by omega, h2, fun _ => ⟨g, o, c, t', fz, hb, hg2, hg1, hc', fun i y hi => (hys i y hi).2⟩⟩, by rw [hlen]; exact hg.1, fun y hy => ?_⟩
  obtain ⟨i, hi⟩ := List.getElem?_of_mem hy
  exact (hys i y hi).1
theorem softR_rule {tis : TypeId} (hne : tis ≠ ti) : SoftR ti (rRule ti tis) sRule := by
  intro L n w w' lo hi cs x hs hl h hg
  obtain ⟨v1, v2, v3, rfl, h1, h2, h3⟩ := rRule_iff.1 h
  obtain ⟨gv, gc, gr⟩ := hg
  obtain ⟨a, ha, hga⟩ := softR_ints hs hl h1 gv
  obtain ⟨b, hb, hgb⟩ := softR_ints hs hl h2 gc
  obtain ⟨c, hc, hgc⟩ := softR_slice (good := sInts) hne softR_ints hs hl h3 gr
  exact ⟨⟨x.kind, a, b, x.bound, c⟩, rRule_iff.2 ⟨v1, v2, v3, rfl, ha, hb, hc⟩, hga, hgb, hgc⟩
theorem soft_own_ints {xs : List Int} (hs : Soft L ti n w w') (h : Own RP.int ti lo el w v xs) (hg : sInts xs) : ∃ xs', Own RP.int ti lo el w' v xs' ∧ sInts xs' := by
  rcases h with ⟨rfl, rfl⟩ | ⟨g, cap, c, rfl, hlo, hb, h1, h2, hsz, hel⟩
  · exact ⟨[], .inl ⟨rfl, rfl⟩, hg⟩
  obtain ⟨c', hc', hsz', hcell⟩ := soft_int hs hb
  have hyp : ∀ (i : Nat) (x : Int), xs[i]? = some x → ∃ y, c'[i]? = some (Value.int .i64 y) := by
    intro i x hi
    obtain ⟨cs', hr, hcs'⟩ := hel i x hi
    have hr : cs' = [.int .i64 x] := hr
    subst hr
    have := hcs' 0 _ rfl
    rcases hcell _ _ this with h | h
    · exact ⟨x, by simpa [RP.int, RP.single] using h⟩
    · exact ⟨n, by simpa [RP.int, RP.single] using h⟩
  obtain ⟨ys, hlen, hys⟩ := choose_list (Q := fun (i : Nat) y => c'[i]? = some (Value.int .i64 y)) hyp
  refine ⟨ys, .inr ⟨g, cap, c', by rw [hlen], hlo, hc', by omega, h2, by rw [hsz']; exact hsz, fun i y hi => ⟨[.int .i64 y], rfl, fun j u hj => ?_⟩⟩, by unfold sInts at *; omega⟩
  · cases j with
    | zero => simp at hj; subst hj; simpa [RP.int, RP.single] using hys i y hi
    | succ j => simp at hj
theorem soft_own {xs : List α} (hne : t ≠ ti) (hr : SoftR ti r good) (hs : Soft L ti n w w') (hl : el ≤ L) (h : Own r t lo el w v xs) (hg : xs.length ≤ 1000 ∧ ∀ x ∈ xs, good x) :
    ∃ xs', Own r t lo el w' v xs' ∧ xs'.length ≤ 1000 ∧ ∀ x ∈ xs', good x := by
  rcases h with ⟨rfl, rfl⟩ | ⟨g, cap, c, rfl, hlo, hb, h1, h2, hsz, hel⟩
  · exact ⟨[], .inl ⟨rfl, rfl⟩, hg⟩
  have hc' := soft_only hs hb (.inl hne)
  have hyp : ∀ i x, xs[i]? = some x → ∃ y, good y ∧ ∃ cs', r.rel el w'.heap.size w' cs' y ∧ ∀ j v, cs'[j]? = some v → c[i * r.n + j]? = some v := by
    intro i x hi
    obtain ⟨cs', hr', hcs'⟩ := hel i x hi
    obtain ⟨y, hy, hgy⟩ := hr hs hl hr' (hg.2 x (List.mem_of_getElem? hi))
    exact ⟨y, hgy, cs', RP.size_ hy, hcs'⟩
  obtain ⟨ys, hlen, hys⟩ := choose_list hyp
  refine ⟨ys, .inr ⟨g, cap, c, by rw [hlen], hlo, hc', by omega, h2, hsz, fun i y hi => (hys i y hi).2⟩, by rw [hlen]; exact hg.1, fun y hy => ?_⟩
  obtain ⟨i, hi⟩ := List.getElem?_of_mem hy
  exact (hys i y hi).1
end
section
variable {P : Program} {N : Nat} {Q : Post} {f : Fr} {w : World} {ops : Array Oper} {rest : List Oper} {d : Nat} {ty : TypeId} {pos : String} {af : Array Edge} {gd : Option (Nat × Bool)} {x y : Operand} {v : Value}
theorem L_ixN {t e : TypeId} {L0 lo hi : Nat} {xs : List Int} {k z : Int} (hk : ok1 ops f N d gd = true) (hu : P.underlying t = some (.slice e)) (hsz : ∀ w, (sizeOf e).run P w = .ok 1 w)
    (hx : ev f x = v) (hs : (RP.sliceN L0 e RP.int).rel lo hi w [v] xs) (hy : ev f y = .int .i64 k) (hi' : idx xs k = some z)
    (h : ∀ (g o : Nat) (c : Array Value), L0 ≤ g → Blk w g e c → c[o]? = some (.int .i64 z) → L P N ops rest Q (upd f d (.pointer (some ⟨g, o, none⟩))) w) : L P N ops (⟨some d, .indexAddr t x y, ty, pos, af, gd⟩ :: rest) Q f w := by
  obtain ⟨h0, hz, hlt⟩ := idx_some hi'
  obtain ⟨⟨base, cap, hv, _, _, hel⟩, hN⟩ := hs
  have hne : xs ≠ [] := by rintro rfl; simp at hlt
  have hv' : v = .slice base xs.length cap := by simpa using hv
  obtain ⟨g, o, c, t', fz, rfl, hg2, hg1, hc, he⟩ := hel hne
  obtain ⟨g1, o1, len1, cap1, c1, hv1, hL, hb⟩ := hN hne
  subst hv'
  simp at hv1
  obtain ⟨⟨rfl, rfl⟩, _⟩ := hv1
  obtain ⟨cs, hr, hcs⟩ := he _ _ hz
  have hr : cs = [.int .i64 z] := hr
  subst hr
  have hb' := hb
  unfold Blk at hb'
  rw [hb'] at hc
  injection hc with hc
  injection hc with h1 _ _
  subst h1
  refine L_pure hk ?_ (h g (o + k.toNat) c1 hL hb (by simpa [RP.int, RP.single] using hcs 0 _ rfl))
  have hlt' : k < (xs.length : Int) := by omega
  simp [execOp, hx, hy, Instr.indexAt, asIntOf, run_underlying hu, h0, hlt', hsz, add_lit]
theorem L_appZN {α : Type} {r : RP α} {B lo hi : Nat} {t e : TypeId} {ys zs : List α} {u : Value} (hk : ok1 ops f N d gd = true) (he : ET P t e r.n) (ht : e ∉ r.ts) (hx : ev f x = v) (hy : ev f y = u) (hz : v = .slice none 0 0 ∨ isZero e lo v w)
    (hs : (RP.slice e r).rel B hi w [u] ys) (happ : app [] ys = some zs) (hlo : lo ≤ w.heap.size) (hB : B ≤ w.heap.size)
    (h : ∀ v' w', (RP.sliceN lo e r).rel B w'.heap.size w' [v'] zs → Ext w w' → L P N ops rest Q (upd f d v') w') :
    L P N ops (⟨some d, .call ⟨.builtin .append, #[x, y], #[t, t]⟩, ty, pos, af, gd⟩ :: rest) Q f w := by
  obtain ⟨hlen, rfl⟩ := app_some happ
  obtain ⟨v', w', hr, h1, h2, h3⟩ := run_appZ (ty := ty) (lo := lo) he ht hz hs (by simpa using hlen) hlo hB
  refine L_pure hk (by simp [execOp, resolve, invoke, builtin, hx, hy, hr]) (h v' w' ⟨by simpa using h1, fun hne => ?_⟩ h2)
  obtain ⟨g, len, cap, c, rfl, hL, hb⟩ := h3 (by simpa using hne)
  exact ⟨g, 0, len, cap, c, rfl, hL, hb⟩
end
theorem sliceN_nil {α : Type} {r : RP α} {t : TypeId} (L lo hi : Nat) (w : World) : (RP.sliceN L t r).rel lo hi w [.slice none 0 0] [] := ⟨rel_nil _ _ _ _ _, fun h => absurd rfl h⟩
theorem own_setF {α : Type} {r : RP α} {e : TypeId} {lo el k j : Nat} {z : α} {g : Nat} {w w' : World} {v u : Value} {xs : List α} {c : Array Value} {us : List Value} (hown : Own r e lo el w v xs) (hg : v.ownBlock = some g) (ht : e ∉ r.ts) (hkl : k < xs.length)
    (hb : Blk w g e c) (hp : Put w w' g e (c.setIfInBounds (k * r.n + j) u)) (hin : ∀ i u, us[i]? = some u → c[k * r.n + i]? = some u) (hj : j < us.length)
    (hr : r.rel el w.heap.size w (us.set j u) z) (hel0 : el ≤ lo) : Own r e lo el w' v (xs.set k z) := by
  have hl : us.length = r.n := by have := r.len hr; simpa using this
  refine own_setN hown hg ht hkl hb hp (by simp) (us := us.set j u) (fun i y hy => ?_) (fun i hi => ?_) hr hel0
  · by_cases hij : j = i
    · subst hij
      have h1 := hin j us[j] (List.getElem?_eq_getElem hj)
      have h2 := (Array.getElem?_eq_some_iff.1 h1).1
      rw [List.getElem?_set_self hj] at hy
      injection hy with hy
      subst hy
      simp [h2]
    · rw [List.getElem?_set_ne hij] at hy
      rw [Array.getElem?_setIfInBounds_ne (by omega)]
      exact hin i y hy
  · rw [Array.getElem?_setIfInBounds_ne (by omega)]
/-- an element that is read, with its row's type -/
def AtT (B : Nat) (t : TypeId) (w : World) (g o : Nat) (cs : List Value) : Prop := ∃ c t' fz, w.heap[g]? = some (.cells c t' fz) ∧ (B ≤ g → t' = t) ∧ ∀ j v, cs[j]? = some v → c[o + j]? = some v
theorem AtT.at {B : Nat} {t : TypeId} {w : World} {g o : Nat} {cs : List Value} (h : AtT B t w g o cs) : At w g o cs := by
  obtain ⟨c, t', fz, hc, _, hj⟩ := h
  exact ⟨c, t', fz, hc, hj⟩
def isElT {α : Type} (B : Nat) (r : RP α) (t : TypeId) (x : α) (off : Nat) : VP := fun v w => ∃ g o cs, v = .pointer (some ⟨g, o + off, none⟩) ∧ r.rel B w.heap.size w cs x ∧ AtT B t w g o cs
theorem mono_elT {α : Type} (B : Nat) (r : RP α) (t : TypeId) (x : α) (off : Nat) : Mono (isElT B r t x off) := fun _ _ _ ⟨g, o, cs, hv, hr, c, t', fz, hc, ht, hj⟩ e =>
  ⟨g, o, cs, hv, RP.wide (RP.ext hr e) (Nat.le_refl _) e.size, c, t', fz, (e.block g (Array.getElem?_eq_some_iff.1 hc).1).trans hc, ht, hj⟩
theorem monoR_elT {g : Nat} {tR : TypeId} {α : Type} {B : Nat} {r : RP α} {t : TypeId} {x : α} {off : Nat} (hne : tR ∉ r.ts) (hn : t ≠ tR) (hB : B ≤ g) : MonoR g tR (isElT B r t x off) := fun _ _ _ ⟨g', o, cs, hv, hr, c, t', fz, hc, ht, hj⟩ m =>
  ⟨g', o, cs, hv, RP.wide (m.rel hr hne hB) (Nat.le_refl _) m.size, c, t', fz, (m.only g' (Array.getElem?_eq_some_iff.1 hc).1 (by
    intro e
    have h1 := m.typ g' c t' fz e.symm hc
    injection e with e
    have h2 := ht (by omega)
    exact hn (h2 ▸ h1))).trans hc, ht, hj⟩
section
variable {P : Program} {N : Nat} {Q : Post} {f : Fr} {w : World} {ops : Array Oper} {rest : List Oper} {d : Nat} {ty : TypeId} {pos : String} {af : Array Edge} {gd : Option (Nat × Bool)} {x y : Operand} {v : Value}
theorem L_ixT {α : Type} {r : RP α} {t e : TypeId} {lo hi : Nat} {xs : List α} {k : Int} {z : α} (hk : ok1 ops f N d gd = true) (hu : P.underlying t = some (.slice e)) (hsz : ∀ w, (sizeOf e).run P w = .ok r.n w)
    (hx : ev f x = v) (hs : (RP.slice e r).rel lo hi w [v] xs) (hy : ev f y = .int .i64 k) (hi' : idx xs k = some z)
    (h : ∀ g o cs, r.rel lo hi w cs z → AtT lo e w g o cs → L P N ops rest Q (upd f d (.pointer (some ⟨g, o, none⟩))) w) : L P N ops (⟨some d, .indexAddr t x y, ty, pos, af, gd⟩ :: rest) Q f w := by
  obtain ⟨h0, hz, hlt⟩ := idx_some hi'
  obtain ⟨base, cap, hv, _, _, hel⟩ := hs
  have hv' : v = .slice base xs.length cap := by simpa using hv
  obtain ⟨g, o, c, t', fz, rfl, hg2, hg1, hc, he⟩ := hel (by rintro rfl; simp at hlt)
  obtain ⟨cs, hr, hcs⟩ := he _ _ hz
  refine L_pure hk ?_ (h g (o + k.toNat * r.n) cs hr ⟨c, _, fz, hc, hg1, hcs⟩)
  have hlt' : k < (xs.length : Int) := by omega
  simp [execOp, hx, hy, hv', Instr.indexAt, asIntOf, run_underlying hu, h0, hlt', hsz, add_lit]
end
def rdOk (a b : Int) : Prop := a ≤ b ∧ b ≤ a + 1000
theorem strict_ne {α : Type} {r : RP α} {t : TypeId} {lo hi : Nat} {w : World} {v : Value} {xs : List α} {u : Unit} (h : (RP.slice t r).rel lo hi w [v] xs) (hn : (if List.isEmpty xs = true then none else some ()) = some u) : isNilS v = List.isEmpty xs := by
  have hne : List.isEmpty xs = false := by
    cases hx : List.isEmpty xs with
    | false => rfl
    | true => rw [hx] at hn; cases hn
  obtain ⟨base, cap, hv, _, _, he⟩ := h
  obtain ⟨g, o, c, t', fz, rfl, _⟩ := he (by rintro rfl; cases hne)
  simp at hv
  subst hv
  rw [hne]
  rfl
/-! ### a literal of several structs -/
def AllRel {α : Type} (r : RP α) (el hi : Nat) (w : World) : List (List Value) → List α → Prop
  | [], [] => True
  | c :: cs, x :: xs => r.rel el hi w c x ∧ AllRel r el hi w cs xs
  | _, _ => False
theorem flat_get {n : Nat} : ∀ {css : List (List Value)} {i j : Nat} {c : List Value} {v : Value}, (∀ c ∈ css, c.length = n) → css[i]? = some c → c[j]? = some v → css.flatten[i * n + j]? = some v
  | [], i, j, c, v, _, h, _ => by simp at h
  | d :: css, 0, j, c, v, hl, h, hj => by
    simp at h
    subst h
    have hlt := (List.getElem?_eq_some_iff.1 hj).1
    rw [List.flatten_cons, Nat.zero_mul, Nat.zero_add, List.getElem?_append_left hlt]
    exact hj
  | d :: css, i + 1, j, c, v, hl, h, hj => by
    have hd := hl d (by simp)
    rw [List.flatten_cons, List.getElem?_append_right (by rw [hd, Nat.add_mul]; omega)]
    have := flat_get (css := css) (i := i) (j := j) (fun c hc => hl c (by simp [hc])) (by simpa using h) hj
    rw [hd, show (i + 1) * n + j - n = i * n + j from by rw [Nat.add_mul]; omega]
    exact this
theorem allRel_get {α : Type} {r : RP α} {el hi : Nat} {w : World} : ∀ {css : List (List Value)} {xs : List α}, AllRel r el hi w css xs → css.length = xs.length ∧ (∀ c ∈ css, c.length = r.n) ∧ ∀ (i : Nat) (x : α), xs[i]? = some x → ∃ c, css[i]? = some c ∧ r.rel el hi w c x
  | [], [], _ => ⟨rfl, by simp, by simp⟩
  | [], _ :: _, h => h.elim
  | _ :: _, [], h => h.elim
  | c :: cs, x :: xs, h => by
    obtain ⟨h1, h2, h3⟩ := allRel_get h.2
    refine ⟨by simp [h1], ?_, ?_⟩
    · intro d hd
      rcases List.mem_cons.1 hd with rfl | hd
      · exact r.len h.1
      · exact h2 d hd
    · intro i y hy
      cases i with
      | zero => simp at hy; subst hy; exact ⟨c, rfl, h.1⟩
      | succ i => simpa using h3 i y (by simpa using hy)
theorem own_lits {α : Type} {r : RP α} {e : TypeId} {lo el n : Nat} {w w' : World} {g : Nat} {cs : Array Value} {xs : List α} (css : List (List Value)) (hl : xs.length = n) (hn : New w w' g e cs) (hc : cs.toList = css.flatten) (hm : n ≤ maxLen) (hlo : lo ≤ w.heap.size)
    (hr : AllRel r el w.heap.size w css xs) : Own r e lo el w' (.slice (some ⟨g, 0, none⟩) n n) xs := by
  obtain ⟨h1, h2, h3⟩ := allRel_get hr
  have hfl : ∀ (l : List (List Value)), (∀ c ∈ l, c.length = r.n) → l.flatten.length = l.length * r.n := by
    intro l
    induction l with
    | nil => intro _; simp
    | cons d l ih =>
      intro h
      rw [List.flatten_cons, List.length_append, h d (by simp), ih fun c hc => h c (by simp [hc]), List.length_cons, Nat.add_mul]
      omega
  refine own_new hn hl ?_ hm hlo fun i z hz => ?_
  · have := hfl css h2
    rw [← hc] at this
    rw [show cs.size = cs.toList.length from by simp, this, h1, hl]
  · obtain ⟨c, hc1, hc2⟩ := h3 i z hz
    refine ⟨c, hc2, fun j u hu => ?_⟩
    have := flat_get h2 hc1 hu
    rw [← hc] at this
    simpa using this
end Go.E
