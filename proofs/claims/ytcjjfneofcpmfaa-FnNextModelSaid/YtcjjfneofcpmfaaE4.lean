/- Regions whose order is open: each operation leaves a fact of its own slot that stands in every later world. -/
import Derived.Test.YtcjjfneofcpmfaaE3
namespace Go.E
open Go Go.RowKit
set_option linter.unusedVariables false

theorem ext_refl (w : World) : Ext w w := Below.refl _ _
theorem ext_trans {a b c : World} (h : Ext a b) (k : Ext b c) : Ext a c := h.trans (Below.mono k h.size)
theorem ext_mut {a b c : World} {lo : Nat} {row : Option Nat} {t : TypeId} (h : Ext a b) (k : Mut lo row t b c) (hl : a.heap.size ≤ lo) : Ext a c := h.trans (k.below.mono hl)
theorem ext_drew (w : World) : Ext w { w with drawn := w.drawn + 1 } := (Below.refl w.heap.size w).drew

abbrev VP := Value → World → Prop
def Mono (p : VP) : Prop := ∀ v w w', p v w → Ext w w' → p v w'
def isV (x : Value) : VP := fun v _ => v = x
def isData {α : Type} (B : Nat) (r : RP α) (x : α) : VP := fun v w => r.rel B w.heap.size w [v] x
def isAgg_ {α : Type} (B : Nat) (r : RP α) (x : α) : VP := fun v w => ∃ cs : List Value, v = .agg cs.toArray ∧ r.rel B w.heap.size w cs x
def isOwn {α : Type} (B : Nat) (r : RP α) (t : TypeId) (lo : Nat) (xs : List α) : VP := fun v w => Own r t lo B w v xs
def iff_ (c : Prop) (p : VP) : VP := fun v w => c → p v w
def tup2 (p q : VP) : VP := fun v w => ∃ a b, v = .tuple #[a, b] ∧ p a w ∧ q b w
def tup3 (p q r : VP) : VP := fun v w => ∃ a b c, v = .tuple #[a, b, c] ∧ p a w ∧ q b w ∧ r c w
def any_ : VP := fun _ _ => True
theorem mono_V (x : Value) : Mono (isV x) := fun _ _ _ h _ => h
theorem mono_any : Mono any_ := fun _ _ _ _ _ => trivial
theorem mono_data {α : Type} (B : Nat) (r : RP α) (x : α) : Mono (isData B r x) := fun _ _ _ h e => RP.wide (RP.ext h e) (Nat.le_refl _) e.size
theorem mono_agg {α : Type} (B : Nat) (r : RP α) (x : α) : Mono (isAgg_ B r x) := fun _ _ _ ⟨cs, hv, h⟩ e => ⟨cs, hv, RP.wide (RP.ext h e) (Nat.le_refl _) e.size⟩
theorem mono_own {α : Type} (B : Nat) (r : RP α) (t : TypeId) (lo : Nat) (xs : List α) : Mono (isOwn B r t lo xs) := fun _ _ _ h e => h.ext e
theorem mono_iff {c : Prop} {p : VP} (h : Mono p) : Mono (iff_ c p) := fun v w w' hp e hc => h v w w' (hp hc) e
theorem mono_tup2 {p q : VP} (h : Mono p) (k : Mono q) : Mono (tup2 p q) := fun _ _ _ ⟨a, b, hv, hp, hq⟩ e => ⟨a, b, hv, h _ _ _ hp e, k _ _ _ hq e⟩
theorem mono_tup3 {p q r : VP} (h : Mono p) (k : Mono q) (l : Mono r) : Mono (tup3 p q r) := fun _ _ _ ⟨a, b, c, hv, hp, hq, hr⟩ e => ⟨a, b, c, hv, h _ _ _ hp e, k _ _ _ hq e, l _ _ _ hr e⟩


/-! which operations stand before which, by the edges that bind -/
def edges (o : Oper) : List Nat := o.after.toList.filterMap fun e => if Region.binds .any e then some e.on else none
theorem mem_edges {o : Oper} {j : Nat} : j ∈ edges o ↔ ∃ e ∈ o.after, Region.binds .any e = true ∧ e.on = j := by
  simp only [edges, List.mem_filterMap, Array.mem_toList_iff]
  constructor
  · rintro ⟨e, he, h⟩
    split at h
    · rename_i hb; exact ⟨e, he, hb, by injection h⟩
    · cases h
  · rintro ⟨e, he, hb, rfl⟩
    exact ⟨e, he, by rw [if_pos hb]⟩
def row (acc : List (List Nat)) (o : Oper) : List Nat :=
  (List.range acc.length).filter fun j => (edges o).any fun e => e == j || (acc.getD e []).contains j
def cloFrom (acc : List (List Nat)) : List Oper → List (List Nat)
  | [] => acc
  | o :: l => cloFrom (acc ++ [row acc o]) l
theorem cloFrom_pre (l : List Oper) : ∀ acc, ∃ rest, cloFrom acc l = acc ++ rest ∧ rest.length = l.length ∧
    ∀ i o, l[i]? = some o → rest[i]? = some (row (acc ++ rest.take i) o) := by
  induction l with
  | nil => intro acc; exact ⟨[], by simp [cloFrom], rfl, by simp⟩
  | cons o l ih =>
    intro acc
    obtain ⟨rest, h1, h2, h3⟩ := ih (acc ++ [row acc o])
    refine ⟨row acc o :: rest, by simp [cloFrom, h1], by simp [h2], ?_⟩
    intro i o' ho
    cases i with
    | zero => simp at ho; subst ho; simp
    | succ i => simpa using h3 i o' (by simpa using ho)
def clo (l : List Oper) : List (List Nat) := cloFrom [] l
theorem clo_closed {l : List Oper} {S : Nat → Bool} (hS : ∀ i o, l[i]? = some o → S i = true → ∀ e ∈ o.after, Region.binds .any e = true → S e.on = true)
    {i : Nat} {o : Oper} (ho : l[i]? = some o) (hd : ∀ e ∈ o.after, Region.binds .any e = true → S e.on = true) : ∀ j ∈ (clo l).getD i [], S j = true := by
  obtain ⟨rest, h1, h2, h3⟩ := cloFrom_pre l []
  simp only [List.nil_append] at h1 h3
  have key : ∀ i o, l[i]? = some o → (∀ e ∈ o.after, Region.binds .any e = true → S e.on = true) → ∀ j ∈ (clo l).getD i [], S j = true := by
    intro i
    induction i using Nat.strongRecOn with
    | _ i ih =>
      intro o ho hd j hj
      have hr := h3 i o ho
      rw [clo, h1, List.getD_eq_getElem?_getD, hr] at hj
      simp only [Option.getD_some, row, List.mem_filter, List.mem_range, List.any_eq_true] at hj
      obtain ⟨hlen, k, hk, he⟩ := hj
      rw [Bool.or_eq_true] at he
      obtain ⟨e, hin, hb, hek⟩ := mem_edges.1 hk
      have hSe := hd _ hin hb
      rw [hek] at hSe
      rcases he with h | h
      · have : k = j := by simpa using h
        rw [← this]; exact hSe
      · have hlt : k < i := by
          rcases Nat.lt_or_ge k i with hx | hx
          · exact hx
          · rw [List.getD_eq_getElem?_getD, List.getElem?_eq_none (by simp; omega)] at h
            simp at h
        have hil : i < l.length := (List.getElem?_eq_some_iff.1 ho).1
        have ho' : l[k]? = some (l[k]'(by omega)) := List.getElem?_eq_getElem _
        refine ih _ hlt _ ho' (hS _ _ ho' hSe) j ?_
        rw [clo, h1]
        have hm : j ∈ (rest.take i).getD k [] := by simpa using h
        rw [List.getD_eq_getElem?_getD] at hm ⊢
        rw [List.getElem?_take_of_lt hlt] at hm
        exact hm
  exact key i o ho hd

/-- the slots that a list of operations writes -/
def dsts (l : List Oper) : List Nat := l.filterMap (·.dst)
/-- what is asked of a region by reckoning: each operation names earlier ones only; the first m write each a slot of their own; the others follow all that stand ahead of them -/
def drawOk (N : Nat) (l : List Oper) (m : Nat) : Bool :=
  (List.range l.length).all (fun i => match l[i]? with
    | some o => o.after.toList.all (fun e => !(Region.binds .any e) || Nat.blt e.on i) &&
      (if Nat.blt i m then (match o.dst with | some d => Nat.blt d N && !((dsts (l.take i)).contains d) | none => false)
       else (List.range i).all fun j => ((clo l).getD i []).contains j)
    | none => false) && Nat.ble m l.length
theorem drawOk_spec {N : Nat} {l : List Oper} {m : Nat} (h : drawOk N l m = true) : m ≤ l.length ∧ ∀ i o, l[i]? = some o →
    (∀ e ∈ o.after, Region.binds .any e = true → e.on < i) ∧ (i < m → ∃ d, o.dst = some d ∧ d < N ∧ d ∉ dsts (l.take i)) ∧ (m ≤ i → ∀ j, j < i → j ∈ (clo l).getD i []) := by
  unfold drawOk at h
  rw [Bool.and_eq_true, List.all_eq_true] at h
  obtain ⟨h1, h2⟩ := h
  refine ⟨Nat.le_of_ble_eq_true h2, fun i o ho => ?_⟩
  have hil : i < l.length := (List.getElem?_eq_some_iff.1 ho).1
  have hi := h1 i (List.mem_range.2 hil)
  rw [ho] at hi
  simp only [Bool.and_eq_true] at hi
  obtain ⟨ha, hb⟩ := hi
  refine ⟨fun e he hbe => ?_, fun hm => ?_, fun hm j hj => ?_⟩
  · rw [List.all_eq_true] at ha
    have h3 := ha e (Array.mem_toList_iff.2 he)
    rw [hbe] at h3
    simpa using h3
  · rw [if_pos (show Nat.blt i m = true from Nat.ble_eq_true_of_le hm)] at hb
    cases hd : o.dst with
    | none => rw [hd] at hb; simp at hb
    | some d =>
      rw [hd] at hb
      simp only [Bool.and_eq_true] at hb
      exact ⟨d, rfl, Nat.le_of_ble_eq_true hb.1, by simpa using hb.2⟩
  · have hnb : ¬ Nat.blt i m = true := fun hx => by have := Nat.le_of_ble_eq_true hx; omega
    rw [if_neg hnb, List.all_eq_true] at hb
    simpa using hb j (List.mem_range.2 hj)

section draw
variable {P : Program} {N : Nat} {Q : Post} {f0 : Fr} {w0 : World}
/-- the end of a region: its last operations follow one another, so that they are walked in the text's order -/
theorem any_tail {l : List Oper} {m : Nat} (hok : drawOk N l m = true) : ∀ (n k : Nat) (listed : Array Bool) (a : Act) (w : World), l.length ≤ n + k → k ≤ l.length → m ≤ k → listed.size = l.length →
    (∀ i, i < l.length → listed.getD i true = decide (i < k)) → wpList P l.toArray (lift N Q) (l.drop k) a w → wpAny P .any l.toArray (lift N Q) n listed a w := by
  obtain ⟨hml, hspec⟩ := drawOk_spec hok
  intro n
  induction n with
  | zero =>
    intro k listed a w hn hn2 hm hs hl h
    have hk : k = l.length := by omega
    rw [hk, List.drop_length] at h
    refine ⟨?_, h⟩
    rw [Region.ready, List.filter_eq_nil_iff]
    intro i hi
    have hi' : i < l.length := by simpa using hi
    rw [hl i hi']
    simp; omega
  | succ n ih =>
    intro k listed a w hn hn2 hm hs hl h
    rcases Nat.lt_or_ge k l.length with hk | hk
    case inr =>
      have hk : k = l.length := by omega
      have hnil : Region.ready .any l.toArray listed = [] := by
        rw [Region.ready, List.filter_eq_nil_iff]
        intro i hi
        have hi' : i < l.length := by simpa using hi
        rw [hl i hi']
        simp; omega
      rw [hk, List.drop_length] at h
      refine ⟨fun _ => h, fun i hi => ?_⟩
      rw [hnil] at hi
      cases hi
    have hready : ∀ i, i ∈ Region.ready .any l.toArray listed → i = k := by
      intro i hi
      rw [Region.ready, List.mem_filter] at hi
      obtain ⟨hi1, hi2⟩ := hi
      have hi' : i < l.length := by simpa using hi1
      rw [Bool.and_eq_true, hl i hi'] at hi2
      obtain ⟨hi3, hi4⟩ := hi2
      have hki : k ≤ i := by simpa using hi3
      rcases Nat.lt_or_ge k i with hlt | hge
      · exfalso
        have ho : l[i]? = some l[i] := List.getElem?_eq_getElem hi'
        have hpre := (hspec i _ ho).2.2 (by omega) k hlt
        have hS : ∀ i o, l[i]? = some o → (fun j => decide (j < k)) i = true → ∀ e ∈ o.after, Region.binds .any e = true → (fun j => decide (j < k)) e.on = true := by
          intro i o ho hi e he hbe
          have := (hspec i o ho).1 e he hbe
          simp at hi ⊢; omega
        have hd : ∀ e ∈ (l[i]).after, Region.binds .any e = true → (fun j => decide (j < k)) e.on = true := by
          intro e he hb
          simp only [List.getElem?_toArray, ho, Option.map_some, Option.getD_some, Array.all_eq_true_iff_forall_mem] at hi4
          have h1 := hi4 e he
          rw [hb] at h1
          have h2 := (hspec i _ ho).1 e he hb
          have h3 := hl e.on (by omega)
          have h4 : listed.getD e.on true = true := by
            rw [Array.getD_eq_getD_getElem?] at *
            cases hx : listed[e.on]? with
            | none => rfl
            | some b => rw [hx] at h1; simpa using h1
          rw [h4] at h3
          simpa using h3.symm
        have := clo_closed hS ho hd k hpre
        simp at this
      · omega
    refine ⟨fun hnil => ?_, fun i hi => ?_⟩
    · exfalso
      have hkr : k ∈ Region.ready .any l.toArray listed := by
        rw [Region.ready, List.mem_filter]
        refine ⟨by simp [hk], ?_⟩
        have ho : l[k]? = some l[k] := List.getElem?_eq_getElem hk
        rw [Bool.and_eq_true, hl k hk]
        refine ⟨by simp, ?_⟩
        simp only [List.getElem?_toArray, ho, Option.map_some, Option.getD_some, Array.all_eq_true_iff_forall_mem]
        intro e he
        by_cases hbe : Region.binds .any e = true
        case neg => simp [hbe]
        have h2 := (hspec k _ ho).1 e he hbe
        have h3 := hl e.on (by omega)
        have h4 : listed[e.on]? = some (listed[e.on]'(by omega)) := Array.getElem?_eq_getElem _
        rw [Array.getD_eq_getD_getElem?, h4] at h3
        simp only [Array.getD_eq_getD_getElem?, h4]
        simp at h3 ⊢
        right
        simp [h3, h2]
      rw [hnil] at hkr
      cases hkr
    · have := hready i hi
      subst this
      have ho : l[i]? = some l[i] := List.getElem?_eq_getElem hk
      rw [List.drop_eq_getElem_cons hk] at h
      have ho2 : l.toArray[i]? = some l[i] := by simp
      unfold wpOp
      rw [ho2]
      simp only [wpList] at h ⊢
      have hnext : ∀ a w, wpList P l.toArray (lift N Q) (l.drop (i + 1)) a w → wpAny P .any l.toArray (lift N Q) n (listed.setIfInBounds i true) a w := by
        intro a w hh
        refine ih (i + 1) _ a w (by omega) (by omega) (by omega) (by simpa using hs) ?_ hh
        intro j hj
        rw [Array.getD_eq_getD_getElem?]
        by_cases hji : j = i
        · subst hji
          rw [Array.getElem?_setIfInBounds_self_of_lt (by omega)]
          simp
        · rw [Array.getElem?_setIfInBounds_ne (Ne.symm hji), ← Array.getD_eq_getD_getElem?, hl j hj]
          simp; omega
      split at h
      · rename_i hw
        rw [if_pos hw]
        exact h.imp (Oper.wp_mono hnext) id
      · rename_i hw
        rw [if_neg hw]
        exact hnext _ _ h

/-- the fact that an operation leaves of its own slot -/
def opP (o : Oper) (f : Fr) (w : World) (p : VP) : Post := fun e f' w' => e = .normal ∧ Ext w w' ∧ ∃ d v, o.dst = some d ∧ f' = upd f d v ∧ p v w'
/-- one operation of a region, taken out -/
theorem op_of_L {ops : Array Oper} {o : Oper} {f : Fr} {w : World} {p : VP} {a : Act} (ha : Okay N a) (hl : look a = f) (h : L P N ops [o] (opP o f w p) f w) {Q' : Post} {K : Act → World → Prop}
    (hK : ∀ a' w', Okay N a' → Ext w w' → (∃ d v, o.dst = some d ∧ look a' = upd f d v ∧ p v w') → K a' w') :
    if Region.wanted o (yielded ops a.tmps) then o.wp P a w K (lift N Q') ∨ (o.asks P a w ∧ LetsOut (lift N Q')) else K (a.put o.dst undef) w := by
  have h1 := h a ha hl
  unfold wpList at h1
  have hend : ∀ a' w', wpList P ops (lift N (opP o f w p)) [] a' w' → K a' w' := fun a' w' ⟨ho, _, he, hx⟩ => hK a' w' ho he hx
  split at h1
  · rename_i hw
    rw [if_pos hw]
    rcases h1 with h1 | ⟨_, a', w', _, he, _⟩
    · left
      have h2 := Oper.wp_mono (K' := K) hend h1
      unfold Oper.wp at h2 ⊢
      generalize (execOp a.eval o).run P w = r at h2 ⊢
      cases r with
      | ok n w' =>
        cases n <;> simp only [Oper.upon] at h2 ⊢ <;>
          first
            | exact h2
            | exact Calls.mono h2 (fun e w'' he => by
                cases e with
                | returned v => exact he
                | panicked c => obtain ⟨_, he, _⟩ := he; cases he
                | outgrown => obtain ⟨_, _, _, he, _⟩ := he; cases he)
      | halt x w' =>
        cases x <;> simp only [Oper.upon] at h2 ⊢
        obtain ⟨_, he, _⟩ := h2
        cases he
    · cases he
  · rename_i hw
    rw [if_neg hw]
    exact hend _ _ h1

/-- the slots that the region's first operations write are new; all others stand -/
def Same (D : List Nat) (f0 f : Fr) : Prop := ∀ k, D.contains k = false → f k = f0 k
theorem W_draw {id : Nat} {l : List Oper} (m : Nat) (Ψ : Nat → VP) (hmix : P.follows .mixedOrders = true) (hok : drawOk N l m = true) (hmono : ∀ i, i < m → Mono (Ψ i))
    (hops : ∀ i o, i < m → l[i]? = some o → ∀ f w, Same (dsts (l.take m)) f0 f → Ext w0 w →
      (∀ j d o', (edges o).contains j = true → l[j]? = some o' → o'.dst = some d → Ψ j (f d) w) → L P N l.toArray [o] (opP o f w (Ψ i)) f w)
    (htail : ∀ f w, Same (dsts (l.take m)) f0 f → Ext w0 w → (∀ i d o, i < m → l[i]? = some o → o.dst = some d → Ψ i (f d) w) → L P N l.toArray (l.drop m) Q f w) :
    W P N (.region id l.toArray true) Q f0 w0 := by
  obtain ⟨hml, hspec⟩ := drawOk_spec hok
  intro a0 ha0 hl0
  refine wp_region_any hmix ?_
  have key : ∀ (n : Nat) (u : List Nat) (listed : Array Bool) (a : Act) (w : World), u.Nodup → u.length + (l.length - m) ≤ n → listed.size = l.length →
      (∀ i, i < l.length → (listed.getD i true = false ↔ i ∈ u ∨ m ≤ i)) → (∀ i ∈ u, i < m) →
      (∀ j o, l[j]? = some o → listed.getD j true = true → ∀ e ∈ o.after, Region.binds .any e = true → listed.getD e.on true = true) → Okay N a → Same (dsts (l.take m)) f0 (look a) → Ext w0 w →
      (∀ i d o, i < m → i ∉ u → l[i]? = some o → o.dst = some d → Ψ i (look a d) w) → wpAny P .any l.toArray (lift N Q) n listed a w := by
    intro n
    induction n with
    | zero =>
      intro u listed a w hu hn hs hl hum hcl ha hsame hext hfacts
      have hu0 : u = [] := List.eq_nil_of_length_eq_zero (by omega)
      subst hu0
      refine any_tail hok 0 m listed a w (by simp at hn; omega) hml (Nat.le_refl _) hs ?_ (htail _ _ hsame hext (fun i d o hi => hfacts i d o hi (by simp)) a ha rfl)
      intro i hi
      have := hl i hi
      cases hx : listed.getD i true with
      | false => have := this.1 hx; simp at this; simp; omega
      | true =>
        have h2 : ¬ (m ≤ i) := fun h => by have := this.2 (.inr h); rw [hx] at this; cases this
        simp; omega
    | succ n ih =>
      intro u listed a w hu hn hs hl hum hcl ha hsame hext hfacts
      by_cases hu0 : u = []
      · subst hu0
        refine any_tail hok (n + 1) m listed a w (by simp at hn; omega) hml (Nat.le_refl _) hs ?_ (htail _ _ hsame hext (fun i d o hi => hfacts i d o hi (by simp)) a ha rfl)
        intro i hi
        have := hl i hi
        cases hx : listed.getD i true with
        | false => have := this.1 hx; simp at this; simp; omega
        | true =>
          have h2 : ¬ (m ≤ i) := fun h => by have := this.2 (.inr h); rw [hx] at this; cases this
          simp; omega
      · -- an operation that is ready is one of the first m
        have hlisted : ∀ j, j < l.length → listed.getD j true = true → j < m ∧ j ∉ u := by
          intro j hj hx
          have := hl j hj
          refine ⟨?_, fun h => ?_⟩
          · rcases Nat.lt_or_ge j m with h | h
            · exact h
            · have := this.2 (.inr h); rw [hx] at this; cases this
          · have := this.2 (.inl h); rw [hx] at this; cases this
        have hS : ∀ i, i ∈ Region.ready .any l.toArray listed → ∀ o, l[i]? = some o → ∀ e ∈ o.after, Region.binds .any e = true → listed.getD e.on true = true := by
          intro i hi o ho e he hb
          rw [Region.ready, List.mem_filter, Bool.and_eq_true] at hi
          obtain ⟨_, _, hi4⟩ := hi
          simp only [List.getElem?_toArray, ho, Option.map_some, Option.getD_some, Array.all_eq_true_iff_forall_mem] at hi4
          have h1 := hi4 e he
          rw [hb] at h1
          rw [Array.getD_eq_getD_getElem?] at h1 ⊢
          cases hx : listed[e.on]? with
          | none => rfl
          | some b => rw [hx] at h1; simpa using h1
        have hnot : Region.ready .any l.toArray listed ≠ [] := by
          -- the least of those that are left
          intro hnil
          have hex : ∃ i, i ∈ u ∧ ∀ j ∈ u, i ≤ j := by
            clear hl hum hfacts hn hu hlisted
            induction u with
            | nil => exact absurd rfl hu0
            | cons x u ihu =>
              by_cases hu1 : u = []
              · subst hu1; exact ⟨x, by simp, by simp⟩
              · obtain ⟨i, hi, hmin⟩ := ihu hu1
                rcases Nat.le_total x i with h | h
                · exact ⟨x, by simp, fun j hj => by
                    rcases List.mem_cons.1 hj with rfl | hj
                    · exact Nat.le_refl _
                    · exact Nat.le_trans h (hmin j hj)⟩
                · exact ⟨i, by simp [hi], fun j hj => by
                    rcases List.mem_cons.1 hj with rfl | hj
                    · exact h
                    · exact hmin j hj⟩
          obtain ⟨i, hi, hmin⟩ := hex
          have him := hum i hi
          have hil : i < l.length := by omega
          have : i ∈ Region.ready .any l.toArray listed := by
            rw [Region.ready, List.mem_filter]
            refine ⟨by simp [hil], ?_⟩
            have ho : l[i]? = some l[i] := List.getElem?_eq_getElem hil
            rw [Bool.and_eq_true, (hl i hil).2 (.inl hi)]
            refine ⟨rfl, ?_⟩
            simp only [List.getElem?_toArray, ho, Option.map_some, Option.getD_some, Array.all_eq_true_iff_forall_mem]
            intro e he
            by_cases hbe : Region.binds .any e = true
            case neg => simp [hbe]
            have h2 := (hspec i _ ho).1 e he hbe
            have h3 : listed.getD e.on true = true := by
              cases hx : listed.getD e.on true with
              | true => rfl
              | false =>
                rcases (hl e.on (by omega)).1 hx with h | h
                · have := hmin _ h; omega
                · omega
            have h4 : listed[e.on]? = some (listed[e.on]'(by omega)) := Array.getElem?_eq_getElem _
            rw [Array.getD_eq_getD_getElem?, h4] at h3
            simp only [Array.getD_eq_getD_getElem?, h4]
            simp at h3 ⊢
            right; exact h3
          rw [hnil] at this
          cases this
        refine ⟨fun h => absurd h hnot, fun i hi => ?_⟩
        have hi0 := hi
        rw [Region.ready, List.mem_filter, Bool.and_eq_true] at hi0
        obtain ⟨hi1, hi2, _⟩ := hi0
        have hil : i < l.length := by simpa using hi1
        have ho : l[i]? = some l[i] := List.getElem?_eq_getElem hil
        have hun : listed.getD i true = false := by simpa using hi2
        have hiu : i ∈ u := by
          rcases (hl i hil).1 hun with h | h
          · exact h
          · exfalso
            have hclo := clo_closed (l := l) (S := fun j => decide (j < l.length) && listed.getD j true) (by
              intro j oj hoj hSj e he hb
              rw [Bool.and_eq_true] at hSj
              have hjl : j < l.length := (List.getElem?_eq_some_iff.1 hoj).1
              -- a listed operation's edges are listed: kept below
              have hj := hlisted j hjl hSj.2
              have hlt := (hspec j oj hoj).1 e he hb
              rw [Bool.and_eq_true]
              refine ⟨by simp; omega, ?_⟩
              exact hcl j oj hoj hSj.2 e he hb) ho (by
              intro e he hb
              have hlt := (hspec i _ ho).1 e he hb
              rw [Bool.and_eq_true]
              exact ⟨by simp; omega, hS i hi _ ho e he hb⟩)
            obtain ⟨x, hx⟩ : ∃ x, x ∈ u := by
              cases u with
              | nil => exact absurd rfl hu0
              | cons x u => exact ⟨x, by simp⟩
            have hxm := hum x hx
            have := hclo x ((hspec i _ ho).2.2 h x (by omega))
            rw [Bool.and_eq_true] at this
            exact (hlisted x (by omega) this.2).2 hx
        have him := hum i hiu
        obtain ⟨d, hd, hdN, hdn⟩ := (hspec i _ ho).2.1 him
        have hdist : ∀ j oj dj, j < m → j ≠ i → l[j]? = some oj → oj.dst = some dj → dj ≠ d := by
          intro j oj dj hjm hji hoj hdj
          rcases Nat.lt_or_ge j i with h | h
          · rintro rfl
            exact hdn (List.mem_filterMap.2 ⟨oj, by
              have : (l.take i)[j]? = some oj := by rw [List.getElem?_take_of_lt h]; exact hoj
              exact List.mem_of_getElem? this, hdj⟩)
          · obtain ⟨d', hd', _, hdn'⟩ := (hspec j oj hoj).2.1 hjm
            rw [hdj] at hd'
            injection hd' with hd'
            subst hd'
            rintro rfl
            exact hdn' (List.mem_filterMap.2 ⟨l[i], by
              have : (l.take j)[i]? = some l[i] := by rw [List.getElem?_take_of_lt (by omega)]; exact ho
              exact List.mem_of_getElem? this, hd⟩)
        have hdin : (dsts (l.take m)).contains d = true := by
          rw [List.contains_iff_mem]
          exact List.mem_filterMap.2 ⟨l[i], by
            have : (l.take m)[i]? = some l[i] := by rw [List.getElem?_take_of_lt him]; exact ho
            exact List.mem_of_getElem? this, hd⟩
        have hop := hops i _ him ho (look a) w hsame hext (by
          intro j dj oj hj hoj hdj
          rw [List.contains_iff_mem, mem_edges] at hj
          obtain ⟨e, hin, hb, hon⟩ := hj
          have hlt := (hspec i _ ho).1 _ hin hb
          have hx := hS i hi _ ho _ hin hb
          rw [hon] at hx hlt
          have := hlisted j (by omega) hx
          exact hfacts j dj oj this.1 this.2 hoj hdj)
        unfold wpOp
        rw [show l.toArray[i]? = some l[i] from by simp [hil]]
        refine op_of_L ha rfl hop ?_
        rintro a' w' ha' he ⟨d', v, hd', hlook, hp⟩
        rw [hd] at hd'
        injection hd' with hd'
        subst hd'
        refine ih (u.erase i) _ a' w' (hu.erase i) ?_ (by simpa using hs) ?_ ?_ ?_ ha' ?_ (ext_trans hext he) ?_
        · rw [List.length_erase_of_mem hiu]
          have : 0 < u.length := List.length_pos_of_mem hiu
          omega
        · intro j hj
          rw [hu.mem_erase_iff]
          by_cases hji : j = i
          · subst hji
            rw [Array.getD_eq_getD_getElem?, Array.getElem?_setIfInBounds_self_of_lt (by omega)]
            simp; omega
          · rw [Array.getD_eq_getD_getElem?, Array.getElem?_setIfInBounds_ne (Ne.symm hji), ← Array.getD_eq_getD_getElem?, hl j hj]
            simp [hji]
        · intro j hj
          exact hum j (List.mem_of_mem_erase hj)
        · intro j oj hoj hj e he' hb
          have hgrow : ∀ x, listed.getD x true = true → (listed.setIfInBounds i true).getD x true = true := by
            intro x hx
            by_cases hxi : x = i
            · subst hxi
              rw [Array.getD_eq_getD_getElem?, Array.getElem?_setIfInBounds_self_of_lt (by omega)]; rfl
            · rw [Array.getD_eq_getD_getElem?, Array.getElem?_setIfInBounds_ne (Ne.symm hxi), ← Array.getD_eq_getD_getElem?]; exact hx
          by_cases hji : j = i
          · subst hji
            rw [ho] at hoj
            injection hoj with hoj
            subst hoj
            exact hgrow _ (hS j hi _ ho e he' hb)
          · rw [Array.getD_eq_getD_getElem?, Array.getElem?_setIfInBounds_ne (Ne.symm hji), ← Array.getD_eq_getD_getElem?] at hj
            exact hgrow _ (hcl j oj hoj hj e he' hb)
        · intro k hk
          rw [hlook]
          have : k ≠ d := by rintro rfl; rw [hdin] at hk; cases hk
          simp only [upd, this, if_false]
          exact hsame k hk
        · intro j dj oj hjm hju hoj hdj
          by_cases hji : j = i
          · subst hji
            rw [ho] at hoj
            injection hoj with hoj
            subst hoj
            rw [hd] at hdj
            injection hdj with hdj
            subst hdj
            rw [hlook]
            simpa [upd] using hp
          · have hne := hdist j oj dj hjm hji hoj hdj
            rw [hlook]
            simp only [upd, hne, if_false]
            exact hmono j hjm _ _ _ (hfacts j dj oj hjm (fun h => hju (by rw [hu.mem_erase_iff]; exact ⟨hji, h⟩)) hoj hdj) he
  have hlen : l.toArray.size = l.length := by simp
  rw [hlen]
  refine key l.length (List.range m) _ a0 _ List.nodup_range (by simp; omega) (by simp) ?_ (by simp) ?_ ha0 (fun k _ => by rw [hl0]) (ext_drew w0) ?_
  · intro i hi
    simp [Array.getD_eq_getD_getElem?, hi]
    omega
  · intro j o hj hx
    have : j < l.length := (List.getElem?_eq_some_iff.1 hj).1
    simp [Array.getD_eq_getD_getElem?, this] at hx
  · intro i d o hi hni
    simp at hni
    omega

/-! the same, written for use: one goal an operation -/
def AllMono (ps : List VP) : Prop := ∀ i, Mono (ps.getD i any_)
theorem am_nil : AllMono [] := fun i => by cases i <;> exact mono_any
theorem am_cons {p : VP} {ps : List VP} (h : Mono p) (hs : AllMono ps) : AllMono (p :: ps) := fun i => by
  cases i with
  | zero => exact h
  | succ i => exact hs i
/-- the facts of the operations that the edges name -/
def Pre (l : List Oper) (ps : List VP) (o : Oper) (f : Fr) (w : World) : Prop := ∀ j d, (edges o).contains j = true → (l[j]?).bind (·.dst) = some d → ps.getD j any_ (f d) w
def OpsP (P : Program) (N : Nat) (l : List Oper) (ps : List VP) (D : List Nat) (f0 : Fr) (w0 : World) : Nat → List Oper → Prop
  | _, [] => True
  | k, o :: rest => (∀ f w, Same D f0 f → Ext w0 w → Pre l ps o f w → L P N l.toArray [o] (opP o f w (ps.getD k any_)) f w) ∧ OpsP P N l ps D f0 w0 (k + 1) rest
theorem ops_nil {l : List Oper} {ps : List VP} {D : List Nat} {k : Nat} : OpsP P N l ps D f0 w0 k [] := trivial
theorem ops_cons {l : List Oper} {ps : List VP} {D : List Nat} {k : Nat} {o : Oper} {rest : List Oper}
    (h : ∀ f w, Same D f0 f → Ext w0 w → Pre l ps o f w → L P N l.toArray [o] (opP o f w (ps.getD k any_)) f w) (hs : OpsP P N l ps D f0 w0 (k + 1) rest) : OpsP P N l ps D f0 w0 k (o :: rest) := ⟨h, hs⟩
theorem opsP_get {l : List Oper} {ps : List VP} {D : List Nat} : ∀ (u : List Oper) (k : Nat), OpsP P N l ps D f0 w0 k u → ∀ i o, u[i]? = some o →
    ∀ f w, Same D f0 f → Ext w0 w → Pre l ps o f w → L P N l.toArray [o] (opP o f w (ps.getD (k + i) any_)) f w := by
  intro u
  induction u with
  | nil => intro k _ i o ho; simp at ho
  | cons x u ih =>
    intro k hk i o ho
    cases i with
    | zero => simp at ho; subst ho; exact hk.1
    | succ i =>
      have := ih (k + 1) hk.2 i o (by simpa using ho)
      rwa [show k + 1 + i = k + (i + 1) from by omega] at this
/-- all facts, behind the first m operations -/
def Facts (l : List Oper) (ps : List VP) (m : Nat) (f : Fr) (w : World) : Prop := ∀ i d, Nat.blt i m = true → (l[i]?).bind (·.dst) = some d → ps.getD i any_ (f d) w
theorem W_drawL {id : Nat} {l : List Oper} (m : Nat) (ps : List VP) (hmix : P.follows .mixedOrders = true) (hok : drawOk N l m = true) (hmono : AllMono ps)
    (hops : OpsP P N l ps (dsts (l.take m)) f0 w0 0 (l.take m))
    (htail : ∀ f w, Same (dsts (l.take m)) f0 f → Ext w0 w → Facts l ps m f w → L P N l.toArray (l.drop m) Q f w) : W P N (.region id l.toArray true) Q f0 w0 := by
  refine W_draw m (fun i => ps.getD i any_) hmix hok (fun i _ => hmono i) ?_ ?_
  · intro i o hi ho f w hs he hp
    have := opsP_get _ _ hops i o (by rw [List.getElem?_take_of_lt hi]; exact ho) f w hs he (fun j d hj hd => by
      cases h : l[j]? with
      | none => rw [h] at hd; cases hd
      | some o' => rw [h] at hd; exact hp j d o' hj h hd)
    simpa using this
  · intro f w hs he hp
    refine htail f w hs he fun i d hi hd => ?_
    cases h : l[i]? with
    | none => rw [h] at hd; cases hd
    | some o' => rw [h] at hd; exact hp i d o' (Nat.le_of_ble_eq_true hi) h hd
end draw
end Go.E
