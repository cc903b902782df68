/- The heap's logic: a frozen part that nothing turns, readings over it, rows and boxes that the call owns, each apart from the others. -/
import Derived.Test.YteeilbddjlpiaaaE1
import Derived.Maps.AppendAt
import Derived.Deep.Draws
namespace Go.E
open Go Go.RowKit
set_option linter.unusedVariables false
structure FH where
  m : Nat → Option Obj
  src : World
def Sub (H : FH) (w : World) : Prop := Below 0 H.src w ∧ ∀ b o, H.m b = some o → w.heap[b]? = some o
def Le (H H' : FH) : Prop := H'.src = H.src ∧ ∀ b o, H.m b = some o → H'.m b = some o
theorem Le.refl (H : FH) : Le H H := ⟨rfl, fun _ _ h => h⟩
theorem Le.trans {A B C : FH} (h : Le A B) (k : Le B C) : Le A C := ⟨k.1.trans h.1, fun b o x => k.2 b o (h.2 b o x)⟩
theorem Le.none {A B : FH} (h : Le A B) {b : Nat} (hb : B.m b = none) : A.m b = none := by
  cases hx : A.m b with
  | none => rfl
  | some o => rw [h.2 b o hx] at hb; cases hb
theorem Sub.le {H H' : FH} {w : World} (h : Sub H' w) (k : Le H H') : Sub H w := ⟨k.1 ▸ h.1, fun b o x => h.2 b o (k.2 b o x)⟩
theorem Sub.lt {H : FH} {w : World} (h : Sub H w) {b : Nat} (hb : w.heap.size ≤ b) : H.m b = none := by
  cases hx : H.m b with
  | none => rfl
  | some o => have := (Array.getElem?_eq_some_iff.1 (h.2 b o hx)).1; omega
def Blk (w : World) (g : Nat) (t : TypeId) (cs : Array Value) : Prop := w.heap[g]? = some (.cells cs t (0, 0))
theorem Blk.lt {w : World} {g : Nat} {t : TypeId} {cs : Array Value} (h : Blk w g t cs) : g < w.heap.size := (Array.getElem?_eq_some_iff.1 h).1
structure RP (α : Type) where
  n : Nat
  rel : FH → List Value → α → Prop
  len : ∀ {H cs x}, rel H cs x → cs.length = n
  one : ∀ {H cs x}, rel H cs x → ∀ v ∈ cs, v.oneCell' = true
  mono : ∀ {H H' cs x}, rel H cs x → Le H H' → rel H' cs x
def RP.flat {α : Type} (r : RP α) : Prop := ∀ {H H' : FH} {cs : List Value} {x : α}, r.rel H cs x → r.rel H' cs x
namespace RP
variable {α β : Type}
def single (α : Type) (enc : α → Value) (h : ∀ x, (enc x).oneCell' = true) : RP α where
  n := 1
  rel _ cs x := cs = [enc x]
  len h := by rw [h]; rfl
  one h' v hv := by rw [h'] at hv; simp at hv; rw [hv]; exact h _
  mono h _ := h
def int : RP Int := single Int (.int .i64) fun _ => rfl
def u8 : RP UInt8 := single UInt8 (fun b => .int .u8 (b.toNat : Int)) fun _ => rfl
def u64 : RP Int := single Int (.int .u64) fun _ => rfl
def bool : RP Bool := single Bool .bool fun _ => rfl
theorem flat_int : int.flat := fun h => h
def pair (a : RP α) (b : RP β) : RP (α × β) where
  n := a.n + b.n
  rel H cs p := ∃ c1 c2, cs = c1 ++ c2 ∧ a.rel H c1 p.1 ∧ b.rel H c2 p.2
  len := by rintro _ _ _ ⟨c1, c2, rfl, h1, h2⟩; rw [List.length_append, a.len h1, b.len h2]
  one := by
    rintro _ _ _ ⟨c1, c2, rfl, h1, h2⟩ v hv
    rcases List.mem_append.1 hv with h | h
    · exact a.one h1 v h
    · exact b.one h2 v h
  mono := by
    rintro _ _ _ _ ⟨c1, c2, rfl, h1, h2⟩ hl
    exact ⟨c1, c2, rfl, a.mono h1 hl, b.mono h2 hl⟩
theorem flat_pair {a : RP α} {b : RP β} (h : a.flat) (k : b.flat) : (pair a b).flat := by
  rintro _ _ _ _ ⟨c1, c2, rfl, h1, h2⟩
  exact ⟨c1, c2, rfl, h h1, k h2⟩
def map (f : β → α) (r : RP α) : RP β where
  n := r.n
  rel H cs y := r.rel H cs (f y)
  len h := r.len h
  one h := r.one h
  mono h := r.mono h
theorem flat_map {f : β → α} {r : RP α} (h : r.flat) : (map f r).flat := fun x => h x
def slice (t : TypeId) (r : RP α) : RP (List α) where
  n := 1
  rel H cs xs := ∃ base cap, cs = [.slice base xs.length cap] ∧ xs.length ≤ cap ∧ cap ≤ maxLen ∧
    (xs ≠ [] → ∃ g o c t' fz, base = some ⟨g, o, none⟩ ∧ H.m g = some (.cells c t' fz) ∧
      ∀ i x, xs[i]? = some x → ∃ cs', r.rel H cs' x ∧ ∀ j v, cs'[j]? = some v → c[o + i * r.n + j]? = some v)
  len := by rintro _ _ _ ⟨_, _, rfl, _⟩; rfl
  one := by rintro _ _ _ ⟨_, _, rfl, _⟩ v hv; simp at hv; rw [hv]; rfl
  mono := by
    rintro H H' cs xs ⟨base, cap, rfl, h1, h2, h3⟩ hl
    refine ⟨base, cap, rfl, h1, h2, fun hx => ?_⟩
    obtain ⟨g, o, c, t', fz, hb, hc, he⟩ := h3 hx
    refine ⟨g, o, c, t', fz, hb, hl.2 _ _ hc, fun i x hi => ?_⟩
    obtain ⟨cs', hr, hcs⟩ := he i x hi
    exact ⟨cs', r.mono hr hl, hcs⟩
end RP
structure OR (α : Type) where
  r : RP α
  rel : FH → World → List Nat → List Value → α → Prop
  len : ∀ {H w F cs x}, rel H w F cs x → cs.length = r.n
  one : ∀ {H w F cs x}, rel H w F cs x → ∀ v ∈ cs, v.oneCell' = true
  mono : ∀ {H H' w F cs x}, rel H w F cs x → Le H H' → rel H' w F cs x
  loc : ∀ {H w w' F cs x}, rel H w F cs x → (∀ b ∈ F, w'.heap[b]? = w.heap[b]?) → rel H w' F cs x
  lt : ∀ {H w F cs x}, rel H w F cs x → ∀ b ∈ F, b < w.heap.size
  fz : ∀ {H H' w F cs x}, rel H w F cs x → Le H H' → (∀ b ∈ F, H'.m b = w.heap[b]?) → r.rel H' cs x
def OR.closed {α : Type} (R : OR α) : Prop := ∀ {H H' : FH} {w : World} {F : List Nat} {cs : List Value} {x : α}, R.rel H w F cs x → R.rel H' w F cs x
namespace OR
variable {α β : Type}
def frz (r : RP α) : OR α where
  r := r
  rel H w F cs x := F = [] ∧ r.rel H cs x
  len h := r.len h.2
  one h := r.one h.2
  mono h k := ⟨h.1, r.mono h.2 k⟩
  loc h _ := h
  lt h b hb := by rw [h.1] at hb; cases hb
  fz h k _ := r.mono h.2 k
theorem closed_frz {r : RP α} (h : r.flat) : (frz r).closed := fun k => ⟨k.1, h k.2⟩
def Els (R : OR α) (H : FH) (w : World) (c : Array Value) (xs : List α) (Fs : List (List Nat)) : Prop :=
  Fs.length = xs.length ∧ ∀ i x G, xs[i]? = some x → Fs[i]? = some G → ∃ cs', R.rel H w G cs' x ∧ ∀ j v, cs'[j]? = some v → c[i * R.r.n + j]? = some v
theorem Els.get {R : OR α} {H : FH} {w : World} {c : Array Value} {xs : List α} {Fs : List (List Nat)} (h : Els R H w c xs Fs) {i : Nat} {x : α} (hi : xs[i]? = some x) :
    ∃ G cs', Fs[i]? = some G ∧ R.rel H w G cs' x ∧ ∀ j v, cs'[j]? = some v → c[i * R.r.n + j]? = some v := by
  have hl : i < xs.length := (List.getElem?_eq_some_iff.1 hi).1
  have hG : Fs[i]? = some (Fs[i]'(by rw [h.1]; exact hl)) := List.getElem?_eq_getElem _
  obtain ⟨cs', h1, h2⟩ := h.2 i x _ hi hG
  exact ⟨_, cs', hG, h1, h2⟩
theorem Els.mem {R : OR α} {H : FH} {w : World} {c : Array Value} {xs : List α} {Fs : List (List Nat)} (h : Els R H w c xs Fs) {G : List Nat} (hG : G ∈ Fs) : ∃ cs' x, R.rel H w G cs' x := by
  obtain ⟨i, hi⟩ := List.getElem?_of_mem hG
  have hl : i < Fs.length := (List.getElem?_eq_some_iff.1 hi).1
  obtain ⟨cs', h1, _⟩ := h.2 i _ G (List.getElem?_eq_getElem (h.1 ▸ hl)) hi
  exact ⟨cs', _, h1⟩
def ownS (e : TypeId) (R : OR α) : OR (List α) where
  r := RP.slice e R.r
  rel H w F cs xs := (cs = [.slice none 0 0] ∧ xs = [] ∧ F = []) ∨ ∃ g cap c Fs, cs = [.slice (some ⟨g, 0, none⟩) xs.length cap] ∧ Blk w g e c ∧ xs.length ≤ cap ∧ cap ≤ maxLen ∧ c.size = cap * R.r.n ∧
    F = g :: List.flatten Fs ∧ Els R H w c xs Fs
  len := by
    rintro H w F cs x (⟨rfl, _⟩ | ⟨g, cap, c, Fs, rfl, _⟩) <;> rfl
  one := by
    rintro H w F cs x (⟨rfl, _⟩ | ⟨g, cap, c, Fs, rfl, _⟩) v hv <;> simp at hv <;> rw [hv] <;> rfl
  mono := by
    rintro H H' w F cs x (h | ⟨g, cap, c, Fs, rfl, hb, h1, h2, h3, hF, he1, he2⟩) hl
    · exact .inl h
    · refine .inr ⟨g, cap, c, Fs, rfl, hb, h1, h2, h3, hF, he1, fun i x G hi hG => ?_⟩
      obtain ⟨cs', hr, hj⟩ := he2 i x G hi hG
      exact ⟨cs', R.mono hr hl, hj⟩
  loc := by
    rintro H w w' F cs x (h | ⟨g, cap, c, Fs, rfl, hb, h1, h2, h3, rfl, he1, he2⟩) hl
    · exact .inl h
    · refine .inr ⟨g, cap, c, Fs, rfl, (hl g (by simp)).trans hb, h1, h2, h3, rfl, he1, fun i x G hi hG => ?_⟩
      obtain ⟨cs', hr, hj⟩ := he2 i x G hi hG
      exact ⟨cs', R.loc hr fun b hb => hl b (List.mem_cons_of_mem _ (List.mem_flatten.2 ⟨G, List.mem_of_getElem? hG, hb⟩)), hj⟩
  lt := by
    rintro H w F cs x (⟨_, _, rfl⟩ | ⟨g, cap, c, Fs, rfl, hb, h1, h2, h3, rfl, he⟩) b hbF
    · cases hbF
    · rcases List.mem_cons.1 hbF with rfl | hbF
      · exact hb.lt
      · obtain ⟨G, hG, hbG⟩ := List.mem_flatten.1 hbF
        obtain ⟨cs', x, hr⟩ := he.mem hG
        exact R.lt hr b hbG
  fz := by
    rintro H H' w F cs x (⟨rfl, rfl, rfl⟩ | ⟨g, cap, c, Fs, rfl, hb, h1, h2, h3, rfl, he⟩) hl hm
    · exact ⟨none, 0, rfl, Nat.zero_le _, by simp, fun h => absurd rfl h⟩
    · refine ⟨_, cap, rfl, h1, h2, fun _ => ⟨g, 0, c, e, (0, 0), rfl, (hm g (by simp)).trans hb, fun i x hi => ?_⟩⟩
      obtain ⟨G, cs', hG, hr, hj⟩ := he.get hi
      exact ⟨cs', R.fz hr hl fun b hb => hm b (List.mem_cons_of_mem _ (List.mem_flatten.2 ⟨G, List.mem_of_getElem? hG, hb⟩)), fun j v hv => by rw [Nat.zero_add]; exact hj j v hv⟩
theorem closed_ownS {e : TypeId} {R : OR α} (h : R.closed) : (ownS e R).closed := by
  rintro H H' w F cs x (hn | ⟨g, cap, c, Fs, rfl, hb, h1, h2, h3, hF, he1, he2⟩)
  · exact .inl hn
  · refine .inr ⟨g, cap, c, Fs, rfl, hb, h1, h2, h3, hF, he1, fun i x G hi hG => ?_⟩
    obtain ⟨cs', hr, hj⟩ := he2 i x G hi hG
    exact ⟨cs', h hr, hj⟩
def pair (a : OR α) (b : OR β) : OR (α × β) where
  r := RP.pair a.r b.r
  rel H w F cs p := ∃ F1 F2 c1 c2, F = F1 ++ F2 ∧ cs = c1 ++ c2 ∧ a.rel H w F1 c1 p.1 ∧ b.rel H w F2 c2 p.2
  len := by rintro _ _ _ _ _ ⟨F1, F2, c1, c2, rfl, rfl, h1, h2⟩; rw [List.length_append, a.len h1, b.len h2]; rfl
  one := by
    rintro _ _ _ _ _ ⟨F1, F2, c1, c2, rfl, rfl, h1, h2⟩ v hv
    rcases List.mem_append.1 hv with h | h
    · exact a.one h1 v h
    · exact b.one h2 v h
  mono := by
    rintro _ _ _ _ _ _ ⟨F1, F2, c1, c2, rfl, rfl, h1, h2⟩ hl
    exact ⟨F1, F2, c1, c2, rfl, rfl, a.mono h1 hl, b.mono h2 hl⟩
  loc := by
    rintro _ _ _ _ _ _ ⟨F1, F2, c1, c2, rfl, rfl, h1, h2⟩ hl
    exact ⟨F1, F2, c1, c2, rfl, rfl, a.loc h1 fun b hb => hl b (List.mem_append_left _ hb), b.loc h2 fun b hb => hl b (List.mem_append_right _ hb)⟩
  lt := by
    rintro _ _ _ _ _ ⟨F1, F2, c1, c2, rfl, rfl, h1, h2⟩ b hb
    rcases List.mem_append.1 hb with h | h
    · exact a.lt h1 b h
    · exact OR.lt _ h2 b h
  fz := by
    rintro _ _ _ _ _ _ ⟨F1, F2, c1, c2, rfl, rfl, h1, h2⟩ hl hm
    exact ⟨c1, c2, rfl, a.fz h1 hl fun b hb => hm b (List.mem_append_left _ hb), b.fz h2 hl fun b hb => hm b (List.mem_append_right _ hb)⟩
def map (f : β → α) (R : OR α) : OR β where
  r := RP.map f R.r
  rel H w F cs y := R.rel H w F cs (f y)
  len h := R.len h
  one h := R.one h
  mono h := R.mono h
  loc h := R.loc h
  lt h := R.lt h
  fz h := R.fz h
end OR
structure Ass where
  p : FH → World → List Nat → Prop
  fz : FH → Prop
  mono : ∀ {H H' w F}, p H w F → Le H H' → p H' w F
  loc : ∀ {H w w' F}, p H w F → (∀ b ∈ F, w'.heap[b]? = w.heap[b]?) → p H w' F
  lt : ∀ {H w F}, p H w F → ∀ b ∈ F, b < w.heap.size
  fzl : ∀ {H H' w F}, p H w F → Le H H' → (∀ b ∈ F, H'.m b = w.heap[b]?) → fz H'
def Ass.closed (A : Ass) : Prop := ∀ {H H' : FH} {w : World} {F : List Nat}, A.p H w F → A.p H' w F
def own {α : Type} (R : OR α) (cs : List Value) (x : α) : Ass where
  p H w F := R.rel H w F cs x
  fz H := R.r.rel H cs x
  mono h k := R.mono h k
  loc h k := R.loc h k
  lt h := R.lt h
  fzl h k l := R.fz h k l
def box (g : Nat) (t : TypeId) (cs : Array Value) : Ass where
  p H w F := F = [g] ∧ Blk w g t cs
  fz H := H.m g = some (.cells cs t (0, 0))
  mono h _ := h
  loc h k := ⟨h.1, (k g (by rw [h.1]; simp)).trans h.2⟩
  lt h b hb := by rw [h.1] at hb; simp at hb; subst hb; exact h.2.lt
  fzl h _ l := (l g (by rw [h.1]; simp)).trans h.2
theorem closed_own {α : Type} {R : OR α} (h : R.closed) (cs : List Value) (x : α) : (own R cs x).closed := fun k => h k
theorem closed_box (g : Nat) (t : TypeId) (cs : Array Value) : (box g t cs).closed := fun k => k
def SepL : List Ass → FH → World → List Nat → Prop
  | [], _, _, F => F = []
  | A :: As, H, w, F => ∃ F1 F2, F = F1 ++ F2 ∧ A.p H w F1 ∧ SepL As H w F2
section sep
variable {H H' : FH} {w w' : World} {F : List Nat}
theorem SepL.mono : ∀ {As : List Ass} {F : List Nat}, SepL As H w F → Le H H' → SepL As H' w F
  | [], _, h, _ => h
  | A :: As, _, ⟨F1, F2, hF, h1, h2⟩, k => ⟨F1, F2, hF, A.mono h1 k, SepL.mono h2 k⟩
theorem SepL.loc : ∀ {As : List Ass} {F : List Nat}, SepL As H w F → (∀ b ∈ F, w'.heap[b]? = w.heap[b]?) → SepL As H w' F
  | [], _, h, _ => h
  | A :: As, _, ⟨F1, F2, hF, h1, h2⟩, k => by
    subst hF
    exact ⟨F1, F2, rfl, A.loc h1 fun b hb => k b (List.mem_append_left _ hb), SepL.loc h2 fun b hb => k b (List.mem_append_right _ hb)⟩
theorem SepL.lt : ∀ {As : List Ass} {F : List Nat}, SepL As H w F → ∀ b ∈ F, b < w.heap.size
  | [], _, h, b, hb => by rw [h] at hb; cases hb
  | A :: As, _, ⟨F1, F2, hF, h1, h2⟩, b, hb => by
    subst hF
    rcases List.mem_append.1 hb with h | h
    · exact A.lt h1 b h
    · exact SepL.lt h2 b h
theorem SepL.closed : ∀ {As : List Ass} {F : List Nat}, (∀ A ∈ As, A.closed) → SepL As H w F → SepL As H' w F
  | [], _, _, h => h
  | A :: As, _, hc, ⟨F1, F2, hF, h1, h2⟩ => ⟨F1, F2, hF, hc A (by simp) h1, SepL.closed (fun B hB => hc B (by simp [hB])) h2⟩
theorem SepL.fz : ∀ {As : List Ass} {F : List Nat}, SepL As H w F → Le H H' → (∀ b ∈ F, H'.m b = w.heap[b]?) → ∀ A ∈ As, A.fz H'
  | [], _, _, _, _, A, hA => by cases hA
  | A :: As, _, ⟨F1, F2, hF, h1, h2⟩, k, l, B, hB => by
    subst hF
    rcases List.mem_cons.1 hB with rfl | hB
    · exact Ass.fzl _ h1 k fun b hb => l b (List.mem_append_left _ hb)
    · exact SepL.fz h2 k (fun b hb => l b (List.mem_append_right _ hb)) B hB
theorem SepL.append : ∀ {As Bs : List Ass} {F G : List Nat}, SepL As H w F → SepL Bs H w G → SepL (As ++ Bs) H w (F ++ G)
  | [], _, _, _, h, k => by rw [h]; exact k
  | A :: As, Bs, _, G, ⟨F1, F2, hF, h1, h2⟩, k => ⟨F1, F2 ++ G, by rw [hF, List.append_assoc], h1, SepL.append h2 k⟩
theorem SepL.split : ∀ {As Bs : List Ass} {F : List Nat}, SepL (As ++ Bs) H w F → ∃ F1 F2, F = F1 ++ F2 ∧ SepL As H w F1 ∧ SepL Bs H w F2
  | [], _, F, h => ⟨[], F, rfl, rfl, h⟩
  | A :: As, Bs, _, ⟨F1, F2, hF, h1, h2⟩ => by
    obtain ⟨G1, G2, hG, k1, k2⟩ := SepL.split h2
    exact ⟨F1 ++ G1, G2, by rw [hF, hG, List.append_assoc], ⟨F1, G1, rfl, h1, k1⟩, k2⟩
theorem SepL.perm {As Bs : List Ass} (hp : As.Perm Bs) : ∀ {F : List Nat}, SepL As H w F → ∃ G, F.Perm G ∧ SepL Bs H w G := by
  induction hp with
  | nil => intro F h; exact ⟨F, .refl _, h⟩
  | cons A _ ih =>
    rintro F ⟨F1, F2, rfl, h1, h2⟩
    obtain ⟨G, hG, k⟩ := ih h2
    exact ⟨F1 ++ G, hG.append_left F1, F1, G, rfl, h1, k⟩
  | swap A B l =>
    rintro F ⟨F1, F2, rfl, h1, F3, F4, rfl, h3, h4⟩
    exact ⟨F3 ++ (F1 ++ F4), by
      rw [← List.append_assoc, ← List.append_assoc]
      exact List.perm_append_comm.append_right F4, F3, F1 ++ F4, rfl, h3, F1, F4, rfl, h1, h4⟩
  | trans _ _ ih1 ih2 =>
    intro F h
    obtain ⟨G, hG, k⟩ := ih1 h
    obtain ⟨G', hG', k'⟩ := ih2 k
    exact ⟨G', hG.trans hG', k'⟩
end sep
def Star (H : FH) (w : World) (As : List Ass) : Prop := Sub H w ∧ ∃ F, SepL As H w F ∧ F.Nodup ∧ ∀ b ∈ F, H.m b = none
def pick : Nat → List Ass → Option (Ass × List Ass)
  | _, [] => none
  | 0, A :: As => some (A, As)
  | n + 1, A :: As => match pick n As with
    | some (B, Bs) => some (B, A :: Bs)
    | none => none
theorem pick_perm : ∀ {i : Nat} {As Bs : List Ass} {A : Ass}, pick i As = some (A, Bs) → As.Perm (A :: Bs)
  | _, [], _, _, h => by cases ‹Nat› <;> cases h
  | 0, _ :: _, _, _, h => by cases h; exact .refl _
  | n + 1, B :: As, Bs, A, h => by
    simp only [pick] at h
    split at h
    · rename_i C Cs hc
      cases h
      exact ((pick_perm hc).cons B).trans (.swap _ _ _)
    · cases h
section star
variable {H H' : FH} {w w' : World} {A : Ass} {As Bs : List Ass}
theorem Star.sub (h : Star H w As) : Sub H w := h.1
theorem Star.of_sub (h : Sub H w) : Star H w [] := ⟨h, [], rfl, .nil, by simp⟩
theorem Star.perm (h : Star H w As) (hp : As.Perm Bs) : Star H w Bs := by
  obtain ⟨hs, F, h1, h2, h3⟩ := h
  obtain ⟨G, hG, k⟩ := SepL.perm hp h1
  exact ⟨hs, G, k, hG.nodup_iff.1 h2, fun b hb => h3 b (hG.mem_iff.2 hb)⟩
theorem Star.get (i : Nat) (h : Star H w As) (hp : pick i As = some (A, Bs)) : Star H w (A :: Bs) := h.perm (pick_perm hp)
theorem Star.tail (h : Star H w (A :: As)) : Star H w As := by
  obtain ⟨hs, F, ⟨F1, F2, rfl, h1, h2⟩, hn, hm⟩ := h
  exact ⟨hs, F2, h2, (List.nodup_append.1 hn).2.1, fun b hb => hm b (List.mem_append_right _ hb)⟩
theorem Star.drop (i : Nat) (h : Star H w As) (hp : pick i As = some (A, Bs)) : Star H w Bs := (h.get i hp).tail
theorem Star.take : ∀ {As : List Ass} (Bs : List Ass), Star H w (As ++ Bs) → Star H w As := by
  intro As Bs ⟨hs, F, h1, hn, hm⟩
  obtain ⟨F1, F2, rfl, k1, k2⟩ := SepL.split h1
  exact ⟨hs, F1, k1, (List.nodup_append.1 hn).1, fun b hb => hm b (List.mem_append_left _ hb)⟩
theorem Star.swap (h : Star H w (As ++ Bs)) : Star H w (Bs ++ As) := h.perm List.perm_append_comm
theorem Star.upd (h : Star H w (A :: As)) : Sub H w ∧ ∃ F, A.p H w F ∧ F.Nodup ∧ (∀ b ∈ F, H.m b = none ∧ b < w.heap.size) ∧
    ∀ {H' w' B}, Le H H' → Sub H' w' → (∀ b, b < w.heap.size → b ∉ F → w'.heap[b]? = w.heap[b]?) → (∀ b o, H'.m b = some o → H.m b = some o ∨ b ∈ F ∨ w.heap.size ≤ b) →
      (∃ F', SepL B H' w' F' ∧ F'.Nodup ∧ ∀ b ∈ F', (b ∈ F ∨ w.heap.size ≤ b) ∧ H'.m b = none) → Star H' w' (B ++ As) := by
  obtain ⟨hs, F, ⟨F1, F2, rfl, h1, h2⟩, hn, hm⟩ := h
  obtain ⟨hn1, hn2, hn3⟩ := List.nodup_append.1 hn
  refine ⟨hs, F1, h1, hn1, fun b hb => ⟨hm b (List.mem_append_left _ hb), A.lt h1 b hb⟩, ?_⟩
  rintro H' w' B hle hs' hk hd ⟨F', hB, hn', hF'⟩
  have h2lt := SepL.lt h2
  refine ⟨hs', F' ++ F2, SepL.append hB (SepL.mono (SepL.loc h2 fun b hb => hk b (h2lt b hb) fun hb1 => hn3 b hb1 b hb rfl) hle), ?_, ?_⟩
  · refine List.nodup_append.2 ⟨hn', hn2, fun a ha b hb => ?_⟩
    rintro rfl
    rcases (hF' a ha).1 with h | h
    · exact hn3 a h a hb rfl
    · have := h2lt a hb; omega
  · intro b hb
    rcases List.mem_append.1 hb with hb | hb
    · exact (hF' b hb).2
    · cases hx : H'.m b with
      | none => rfl
      | some o =>
        rcases hd b o hx with h | h | h
        · rw [hm b (List.mem_append_right _ hb)] at h; cases h
        · exact absurd rfl (hn3 b h b hb)
        · have := h2lt b hb; omega
def emp : Ass where
  p _ _ F := F = []
  fz _ := True
  mono h _ := h
  loc h _ := h
  lt h b hb := by rw [h] at hb; cases hb
  fzl _ _ _ := trivial
theorem Star.emp (h : Star H w As) : Star H w (emp :: As) := by
  obtain ⟨hs, F, h1, hn, hm⟩ := h
  exact ⟨hs, F, ⟨[], F, rfl, rfl, h1⟩, hn, hm⟩
theorem Star.conv {B : List Ass} (h : Star H w (A :: As)) (hc : ∀ F, A.p H w F → ∃ F', SepL B H w F' ∧ F'.Perm F) : Star H w (B ++ As) := by
  obtain ⟨hs, F, ⟨F1, F2, rfl, h1, h2⟩, hn, hm⟩ := h
  obtain ⟨F', hB, hp⟩ := hc F1 h1
  have hp2 : (F1 ++ F2).Perm (F' ++ F2) := (hp.append_right F2).symm
  exact ⟨hs, F' ++ F2, SepL.append hB h2, hp2.nodup_iff.1 hn, fun b hb => hm b (hp2.mem_iff.2 hb)⟩
theorem Star.convL {B C : List Ass} (h : Star H w (C ++ As)) (hc : ∀ F, SepL C H w F → ∃ F', SepL B H w F' ∧ F'.Perm F) : Star H w (B ++ As) := by
  obtain ⟨hs, F, hC, hn, hm⟩ := h
  obtain ⟨F1, F2, rfl, h1, h2⟩ := SepL.split hC
  obtain ⟨F', hB, hp⟩ := hc F1 h1
  have hp2 : (F1 ++ F2).Perm (F' ++ F2) := (hp.append_right F2).symm
  exact ⟨hs, F' ++ F2, SepL.append hB h2, hp2.nodup_iff.1 hn, fun b hb => hm b (hp2.mem_iff.2 hb)⟩
theorem Star.one (h : Star H w (A :: As)) : ∃ F, A.p H w F := by
  obtain ⟨_, F, ⟨F1, F2, rfl, h1, h2⟩, _⟩ := h
  exact ⟨F1, h1⟩
def FH.add (H : FH) (w : World) (F : List Nat) : FH := ⟨fun b => if b ∈ F then w.heap[b]? else H.m b, H.src⟩
theorem le_add {F : List Nat} (hm : ∀ b ∈ F, H.m b = none) : Le H (H.add w F) := ⟨rfl, fun b o h => by
  unfold FH.add; dsimp only
  rw [if_neg]; · exact h
  intro hb; rw [hm b hb] at h; cases h⟩
theorem sub_add {F : List Nat} (hs : Sub H w) : Sub (H.add w F) w := ⟨hs.1, fun b o h => by
  unfold FH.add at h; dsimp only at h
  split at h
  · exact h
  · exact hs.2 b o h⟩
theorem Star.lend (Is : List Ass) (h : Star H w (Is ++ As)) : ∃ Hb, Le H Hb ∧ Star Hb w Is ∧ (∀ A ∈ As, A.fz Hb) ∧
    ∀ {w' B}, Star Hb w' B → (∀ A ∈ B, A.closed) → Star H w' (B ++ As) := by
  obtain ⟨hs, F, hC, hn, hm⟩ := h
  obtain ⟨F1, F2, rfl, h1, h2⟩ := SepL.split hC
  obtain ⟨hn1, hn2, hn3⟩ := List.nodup_append.1 hn
  have hm2 : ∀ b ∈ F2, H.m b = none := fun b hb => hm b (List.mem_append_right _ hb)
  have hle : Le H (H.add w F2) := le_add hm2
  have hat : ∀ b ∈ F2, (H.add w F2).m b = w.heap[b]? := fun b hb => by unfold FH.add; simp [hb]
  refine ⟨H.add w F2, hle, ⟨sub_add hs, F1, SepL.mono h1 hle, hn1, fun b hb => ?_⟩, SepL.fz h2 hle hat, ?_⟩
  · have : b ∉ F2 := fun h => hn3 b hb b h rfl
    unfold FH.add; simp [this, hm b (List.mem_append_left _ hb)]
  · rintro w' B ⟨hs', F', hB, hn', hm'⟩ hc
    have hkeep : ∀ b ∈ F2, w'.heap[b]? = w.heap[b]? := fun b hb => by
      have hlt := SepL.lt h2 b hb
      have hx : (H.add w F2).m b = some w.heap[b] := by rw [hat b hb, Array.getElem?_eq_getElem hlt]
      rw [hs'.2 b _ hx, Array.getElem?_eq_getElem hlt]
    refine ⟨hs'.le hle, F' ++ F2, SepL.append (SepL.closed hc hB) (SepL.loc h2 hkeep), List.nodup_append.2 ⟨hn', hn2, fun a ha b hb => ?_⟩, fun b hb => ?_⟩
    · rintro rfl
      have := hm' a ha
      rw [hat a hb, Array.getElem?_eq_getElem (SepL.lt h2 a hb)] at this
      cases this
    · rcases List.mem_append.1 hb with hb | hb
      · exact hle.none (hm' b hb)
      · exact hm2 b hb
theorem Star.borrow (h : Star H w As) : ∃ Hb, Le H Hb ∧ Star Hb w [] ∧ (∀ A ∈ As, A.fz Hb) ∧ ∀ {w' B}, Star Hb w' B → (∀ A ∈ B, A.closed) → Star H w' (B ++ As) := Star.lend [] h
theorem Star.freeze (h : Star H w (A :: As)) : ∃ H', Le H H' ∧ Star H' w As ∧ A.fz H' := by
  obtain ⟨hs, F, ⟨F1, F2, rfl, h1, h2⟩, hn, hm⟩ := h
  obtain ⟨hn1, hn2, hn3⟩ := List.nodup_append.1 hn
  have hm1 : ∀ b ∈ F1, H.m b = none := fun b hb => hm b (List.mem_append_left _ hb)
  have hle : Le H (H.add w F1) := le_add hm1
  refine ⟨H.add w F1, hle, ⟨sub_add hs, F2, SepL.mono h2 hle, hn2, fun b hb => ?_⟩, A.fzl h1 hle fun b hb => by unfold FH.add; simp [hb]⟩
  have : b ∉ F1 := fun h => hn3 b h b hb rfl
  unfold FH.add; simp [this, hm b (List.mem_append_right _ hb)]
theorem Star.down (h : Star H' w As) (hl : Le H H') (hc : ∀ A ∈ As, A.closed) : Star H w As := by
  obtain ⟨hs, F, h1, hn, hm⟩ := h
  exact ⟨hs.le hl, F, SepL.closed hc h1, hn, fun b hb => hl.none (hm b hb)⟩
theorem Star.addF {α : Type} {r : RP α} {cs : List Value} {x : α} (h : Star H w As) (hr : r.rel H cs x) : Star H w (own (OR.frz r) cs x :: As) := by
  obtain ⟨hs, F, h1, hn, hm⟩ := h
  exact ⟨hs, F, ⟨[], F, rfl, ⟨rfl, hr⟩, h1⟩, hn, hm⟩
theorem Star.addNil {α : Type} {R : OR α} {e : TypeId} (h : Star H w As) : Star H w (own (OR.ownS e R) [.slice none 0 0] [] :: As) := by
  obtain ⟨hs, F, h1, hn, hm⟩ := h
  exact ⟨hs, F, ⟨[], F, rfl, .inl ⟨rfl, rfl, rfl⟩, h1⟩, hn, hm⟩
theorem closedL_nil : ∀ A ∈ ([] : List Ass), A.closed := by simp
theorem closedL_cons (h : A.closed) (k : ∀ B ∈ As, Ass.closed B) : ∀ B ∈ A :: As, Ass.closed B := by
  intro B hB
  rcases List.mem_cons.1 hB with rfl | hB
  · exact h
  · exact k B hB
theorem fz_get {Hb : FH} (i : Nat) (h : ∀ A ∈ As, A.fz Hb) (hp : pick i As = some (A, Bs)) : A.fz Hb := h A ((pick_perm hp).mem_iff.2 (by simp))
end star
def fullH (w : World) : FH := ⟨fun b => w.heap[b]?, w⟩
theorem sub_full (w : World) : Sub (fullH w) w := ⟨Below.refl 0 w, fun _ _ h => h⟩
theorem below_full {w w' : World} (h : Sub (fullH w) w') : Below w.heap.size w w' :=
  ⟨h.1.os, h.1.tape, h.1.output, h.1.size, fun k hk => by rw [Array.getElem?_eq_getElem hk]; exact h.2 k _ (Array.getElem?_eq_getElem hk)⟩
end Go.E
