/- How data lie in memory: a reading of cells as Lean data ('RP'), slices that the call owns ('Own'), blocks that are known whole ('Blk'). -/
import Derived.Maps.AppendAt
import Derived.Deep.Draws
import Derived.WalkKit
namespace Go.E
open Go Go.RowKit

abbrev Ext (w w' : World) : Prop := Below w.heap.size w w'
def Blk (w : World) (g : Nat) (t : TypeId) (cs : Array Value) : Prop := w.heap[g]? = some (.cells cs t (0, 0))
theorem Blk.lt {w : World} {g : Nat} {t : TypeId} {cs : Array Value} (h : Blk w g t cs) : g < w.heap.size := by
  rcases Nat.lt_or_ge g w.heap.size with hlt | hge
  · exact hlt
  · unfold Blk at h; rw [Array.getElem?_eq_none hge] at h; cases h
theorem Blk.ext {w w' : World} {g : Nat} {t : TypeId} {cs : Array Value} (h : Blk w g t cs) (e : Ext w w') : Blk w' g t cs := (e.block g h.lt).trans h

/-- a reading of cells as data: how many cells, which types of blocks it reaches, and the relation (all blocks below hi; of blocks below lo the type is not known) -/
structure RP (α : Type) where
  n : Nat
  ts : List Nat
  rel : Nat → Nat → World → List Value → α → Prop
  len : ∀ {lo hi w cs x}, rel lo hi w cs x → cs.length = n
  one : ∀ {lo hi w cs x}, rel lo hi w cs x → ∀ v ∈ cs, v.oneCell' = true
  keep : ∀ {lo hi lo' hi' w w' cs x}, rel lo hi w cs x → lo ≤ lo' → hi ≤ hi' →
    (∀ g c t fz, g < hi → (t ∈ ts ∨ g < lo) → w.heap[g]? = some (.cells c t fz) → w'.heap[g]? = some (.cells c t fz)) → rel lo' hi' w' cs x
  cap : ∀ {lo hi w cs x}, rel lo hi w cs x → rel lo w.heap.size w cs x

namespace RP
variable {α β : Type}
theorem wide {r : RP α} {lo hi lo' hi' : Nat} {w : World} {cs : List Value} {x : α} (h : r.rel lo hi w cs x) (h1 : lo ≤ lo') (h2 : hi ≤ hi') : r.rel lo' hi' w cs x :=
  r.keep h h1 h2 fun _ _ _ _ _ _ h => h
theorem below {r : RP α} {lo hi B : Nat} {w w' : World} {cs : List Value} {x : α} (h : r.rel lo hi w cs x) (e : Below B w w') (hB : hi ≤ B) : r.rel lo hi w' cs x :=
  r.keep h (Nat.le_refl _) (Nat.le_refl _) fun g _ _ _ h2 _ hc => (e.block g (Nat.lt_of_lt_of_le h2 hB)).trans hc
theorem ext {r : RP α} {lo hi : Nat} {w w' : World} {cs : List Value} {x : α} (h : r.rel lo hi w cs x) (e : Ext w w') : r.rel lo hi w' cs x :=
  r.keep h (Nat.le_refl _) (Nat.le_refl _) fun g _ _ _ _ _ hc => (e.block g (Array.getElem?_eq_some_iff.1 hc).1).trans hc
/-- every block that a reading reaches is there: the upper bound may be the heap's size -/
theorem size_ {r : RP α} {lo hi : Nat} {w : World} {cs : List Value} {x : α} (h : r.rel lo hi w cs x) : r.rel lo w.heap.size w cs x := r.cap h
/-- one cell -/
def single (α : Type) (enc : α → Value) (h : ∀ x, (enc x).oneCell' = true) : RP α where
  n := 1
  ts := []
  rel _ _ _ cs x := cs = [enc x]
  len h := by rw [h]; rfl
  one h' v hv := by rw [h'] at hv; simp at hv; rw [hv]; exact h _
  keep h _ _ _ := h
  cap h := h
def int : RP Int := single Int (.int .i64) fun _ => rfl
def u8 : RP UInt8 := single UInt8 (fun b => .int .u8 (b.toNat : Int)) fun _ => rfl
def u64 : RP Int := single Int (.int .u64) fun _ => rfl
def bool : RP Bool := single Bool .bool fun _ => rfl
def str : RP ByteArray := single ByteArray .string fun _ => rfl
def pair (a : RP α) (b : RP β) : RP (α × β) where
  n := a.n + b.n
  ts := a.ts ++ b.ts
  rel lo hi w cs p := ∃ c1 c2, cs = c1 ++ c2 ∧ a.rel lo hi w c1 p.1 ∧ b.rel lo hi w c2 p.2
  len := by rintro _ _ _ _ _ ⟨c1, c2, rfl, h1, h2⟩; rw [List.length_append, a.len h1, b.len h2]
  one := by
    rintro _ _ _ _ _ ⟨c1, c2, rfl, h1, h2⟩ v hv
    rcases List.mem_append.1 hv with h | h
    · exact a.one h1 v h
    · exact b.one h2 v h
  keep := by
    rintro _ _ _ _ _ _ _ _ ⟨c1, c2, rfl, h1, h2⟩ hl hh hk
    exact ⟨c1, c2, rfl, a.keep h1 hl hh fun g c t fz x y => hk g c t fz x (y.imp (List.mem_append_left _) id), b.keep h2 hl hh fun g c t fz x y => hk g c t fz x (y.imp (List.mem_append_right _) id)⟩
  cap := by
    rintro _ _ _ _ _ ⟨c1, c2, rfl, h1, h2⟩
    exact ⟨c1, c2, rfl, a.cap h1, b.cap h2⟩
def map (f : β → α) (r : RP α) : RP β where
  n := r.n
  ts := r.ts
  rel lo hi w cs y := r.rel lo hi w cs (f y)
  len h := r.len h
  one h := r.one h
  keep h := r.keep h
  cap h := r.cap h
/-- a slice: its row lies in a block of element type t -/
def slice (t : TypeId) (r : RP α) : RP (List α) where
  n := 1
  ts := t :: r.ts
  rel lo hi w cs xs := ∃ base cap, cs = [.slice base xs.length cap] ∧ xs.length ≤ cap ∧ cap ≤ maxLen ∧
    (xs ≠ [] → ∃ g o c t' fz, base = some ⟨g, o, none⟩ ∧ g < hi ∧ (lo ≤ g → t' = t) ∧ w.heap[g]? = some (.cells c t' fz) ∧
      ∀ i x, xs[i]? = some x → ∃ cs', r.rel lo hi w cs' x ∧ ∀ j v, cs'[j]? = some v → c[o + i * r.n + j]? = some v)
  len := by rintro _ _ _ _ _ ⟨_, _, rfl, _⟩; rfl
  one := by rintro _ _ _ _ _ ⟨_, _, rfl, _⟩ v hv; simp at hv; rw [hv]; rfl
  keep := by
    rintro lo hi lo' hi' w w' cs xs ⟨base, cap, rfl, h1, h2, h3⟩ hl hh hk
    refine ⟨base, cap, rfl, h1, h2, fun hx => ?_⟩
    obtain ⟨g, o, c, t', fz, hb, hg2, hg1, hc, he⟩ := h3 hx
    refine ⟨g, o, c, t', fz, hb, Nat.lt_of_lt_of_le hg2 hh, fun hg => hg1 (Nat.le_trans hl hg), hk g c t' fz hg2 ?_ hc, fun i x hi => ?_⟩
    · rcases Nat.lt_or_ge g lo with h | h
      · exact .inr h
      · exact .inl (by rw [hg1 h]; simp)
    obtain ⟨cs', hr, hcs⟩ := he i x hi
    exact ⟨cs', r.keep hr hl hh fun g c t fz x y => hk g c t fz x (y.imp (List.mem_cons_of_mem _) id), hcs⟩
  cap := by
    rintro lo hi w cs xs ⟨base, cap, rfl, h1, h2, h3⟩
    refine ⟨base, cap, rfl, h1, h2, fun hx => ?_⟩
    obtain ⟨g, o, c, t', fz, hb, hg2, hg1, hc, he⟩ := h3 hx
    refine ⟨g, o, c, t', fz, hb, (Array.getElem?_eq_some_iff.1 hc).1, hg1, hc, fun i x hi => ?_⟩
    obtain ⟨cs', hr, hcs⟩ := he i x hi
    exact ⟨cs', r.cap hr, hcs⟩
end RP

section slices
variable {α : Type} {r : RP α} {t : TypeId} {lo hi : Nat} {w w' : World} {v : Value} {xs : List α}
theorem slice_len (h : (RP.slice t r).rel lo hi w [v] xs) : ∃ base cap, v = .slice base xs.length cap ∧ xs.length ≤ cap ∧ cap ≤ maxLen := by
  obtain ⟨base, cap, hv, h1, h2, _⟩ := h
  exact ⟨base, cap, by simpa using hv, h1, h2⟩
theorem slice_nil (lo hi : Nat) (w : World) (a : Option Addr) (c : Nat) (hc : c ≤ maxLen) : (RP.slice t r).rel lo hi w [.slice a 0 c] [] :=
  ⟨a, c, rfl, Nat.zero_le _, hc, fun h => absurd rfl h⟩

/-- the call's own slice: nil, or the head of a row from block lo on; what its elements reach lies from el on -/
def Own (r : RP α) (t : TypeId) (lo el : Nat) (w : World) (v : Value) (xs : List α) : Prop :=
  (v = .slice none 0 0 ∧ xs = []) ∨ ∃ g cap c, v = .slice (some ⟨g, 0, none⟩) xs.length cap ∧ lo ≤ g ∧ Blk w g t c ∧ xs.length ≤ cap ∧ cap ≤ maxLen ∧ c.size = cap * r.n ∧
    ∀ i x, xs[i]? = some x → ∃ cs', r.rel el w.heap.size w cs' x ∧ ∀ j u, cs'[j]? = some u → c[i * r.n + j]? = some u
theorem Own.nil (r : RP α) (t : TypeId) (lo el : Nat) (w : World) : Own r t lo el w (.slice none 0 0) [] := .inl ⟨rfl, rfl⟩
theorem Own.rel {el : Nat} (h : Own r t lo el w v xs) : (RP.slice t r).rel el w.heap.size w [v] xs := by
  rcases h with ⟨rfl, rfl⟩ | ⟨g, cap, c, rfl, hlo, hb, h1, h2, hs, he⟩
  · exact slice_nil _ _ _ _ _ (by simp)
  · refine ⟨_, cap, rfl, h1, h2, fun _ => ⟨g, 0, c, t, _, rfl, hb.lt, fun _ => rfl, hb, fun i x hi => ?_⟩⟩
    obtain ⟨cs', hr, hc⟩ := he i x hi
    exact ⟨cs', hr, by simpa using hc⟩
theorem Own.ext {el : Nat} (h : Own r t lo el w v xs) (e : Ext w w') : Own r t lo el w' v xs := by
  rcases h with h | ⟨g, cap, c, rfl, hlo, hb, h1, h2, hs, he⟩
  · exact .inl h
  · refine .inr ⟨g, cap, c, rfl, hlo, hb.ext e, h1, h2, hs, fun i x hi => ?_⟩
    obtain ⟨cs', hr, hc⟩ := he i x hi
    exact ⟨cs', RP.wide (RP.ext hr e) (Nat.le_refl _) e.size, hc⟩
theorem Own.wide {el lo' el' : Nat} (h : Own r t lo el w v xs) (h1 : lo' ≤ lo) (h2 : el ≤ el') : Own r t lo' el' w v xs := by
  rcases h with h | ⟨g, cap, c, rfl, hlo, hb, h3, h4, hs, he⟩
  · exact .inl h
  · refine .inr ⟨g, cap, c, rfl, Nat.le_trans h1 hlo, hb, h3, h4, hs, fun i x hi => ?_⟩
    obtain ⟨cs', hr, hc⟩ := he i x hi
    exact ⟨cs', RP.wide hr h2 (Nat.le_refl _), hc⟩
theorem Own.lt {el : Nat} (h : Own r t lo el w v xs) : ∀ k, v.ownBlock = some k → lo ≤ k ∧ k < w.heap.size := by
  intro k hk
  rcases h with ⟨rfl, _⟩ | ⟨g, cap, c, rfl, hlo, hb, _⟩
  · simp [Value.ownBlock] at hk
  · simp [Value.ownBlock] at hk; subst hk; exact ⟨hlo, hb.lt⟩
theorem Own.len {el : Nat} (h : Own r t lo el w v xs) : ∃ base cap, v = .slice base xs.length cap ∧ xs.length ≤ cap ∧ cap ≤ maxLen := slice_len h.rel

/-- a block below which, and beside which, nothing turns: only rows of type t from lo on may have been written -/
structure Mut (lo : Nat) (row : Option Nat) (t : TypeId) (w w' : World) : Prop where
  below : Below lo w w'
  only : ∀ g, g < w.heap.size → some g ≠ row → w'.heap[g]? = w.heap[g]?
  typ : ∀ g c t' fz, row = some g → w.heap[g]? = some (.cells c t' fz) → t' = t
theorem Mut.size {lo : Nat} {row : Option Nat} {t : TypeId} (m : Mut lo row t w w') : w.heap.size ≤ w'.heap.size := m.below.size
theorem Mut.blk {lo : Nat} {row : Option Nat} {t t' : TypeId} (m : Mut lo row t w w') {g : Nat} {cs : Array Value} (h : Blk w g t' cs) (hne : t' ≠ t) : Blk w' g t' cs := by
  refine (m.only g h.lt ?_).trans h
  intro e
  exact hne (m.typ g _ _ _ e.symm h)
theorem Mut.blkN {lo : Nat} {row : Option Nat} {t t' : TypeId} (m : Mut lo row t w w') {g : Nat} {cs : Array Value} (h : Blk w g t' cs) (hne : row ≠ some g) : Blk w' g t' cs :=
  (m.only g h.lt (Ne.symm hne)).trans h
theorem Mut.rel {β : Type} {s : RP β} {lo lo' hi : Nat} {row : Option Nat} {t : TypeId} (m : Mut lo row t w w') {cs : List Value} {x : β} (h : s.rel lo' hi w cs x) (hne : t ∉ s.ts) (hB : lo' ≤ lo) : s.rel lo' hi w' cs x :=
  s.keep h (Nat.le_refl _) (Nat.le_refl _) fun g c t' fz _ ht hc => by
    rcases ht with ht | ht
    case inr => exact (m.below.block g (Nat.lt_of_lt_of_le ht hB)).trans hc
    refine (m.only g (Array.getElem?_eq_some_iff.1 hc).1 ?_).trans hc
    intro e
    have := m.typ g c t' fz e.symm hc
    exact hne (this ▸ ht)
theorem Mut.rel_lo {β : Type} {s : RP β} {lo lo' hi : Nat} {row : Option Nat} {t : TypeId} (m : Mut lo row t w w') {cs : List Value} {x : β} (h : s.rel lo' hi w cs x) (hh : hi ≤ lo) : s.rel lo' hi w' cs x :=
  RP.below h m.below hh
/-- another slice of the call's own, in another row -/
theorem Mut.own {β : Type} {s : RP β} {lo lo' el : Nat} {row : Option Nat} {t t' : TypeId} (m : Mut lo row t w w') {u : Value} {ys : List β} (h : Own s t' lo' el w u ys)
    (hne : u.ownBlock = none ∨ u.ownBlock ≠ row) (hel : t ∉ s.ts) (hB : el ≤ lo) : Own s t' lo' el w' u ys := by
  rcases h with h | ⟨g, cap, c, rfl, hlo, hb, h1, h2, hs, he⟩
  · exact .inl h
  · refine .inr ⟨g, cap, c, rfl, hlo, (m.only g hb.lt (by simpa [Value.ownBlock] using hne)).trans hb, h1, h2, hs, fun i x hi => ?_⟩
    obtain ⟨cs', hr, hc⟩ := he i x hi
    exact ⟨cs', RP.wide (m.rel hr hel hB) (Nat.le_refl _) m.size, hc⟩
theorem Mut.ownT {β : Type} {s : RP β} {lo lo' el : Nat} {row : Option Nat} {t t' : TypeId} (m : Mut lo row t w w') {u : Value} {ys : List β} (h : Own s t' lo' el w u ys)
    (hne : t' ≠ t) (hel : t ∉ s.ts) (hB : el ≤ lo) : Own s t' lo' el w' u ys := by
  refine m.own h ?_ hel hB
  rcases h with ⟨rfl, _⟩ | ⟨g, cap, c, rfl, hlo, hb, _⟩
  · exact .inl rfl
  · refine .inr fun e => ?_
    exact hne (m.typ g _ _ _ (by simpa [Value.ownBlock] using e.symm) hb)
end slices
end Go.E
