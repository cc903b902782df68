/- Regions whose order is open: what each operation leaves stands, whichever comes next; what is owned is handed from operation to operation. -/
import Derived.Test.YteeilbddjlpiaaaG3
namespace Go.E
open Go Go.RowKit
set_option linter.unusedVariables false
set_option linter.unusedSimpArgs false
abbrev VP := Value → World → Prop
def edges (o : Oper) : List Nat := o.after.toList.filterMap fun e => if Region.binds .any e then some e.on else none
theorem mem_edges {o : Oper} {j : Nat} : j ∈ edges o ↔ ∃ e ∈ o.after, Region.binds .any e = true ∧ e.on = j := by
  simp only [edges, List.mem_filterMap, Array.mem_toList_iff]
  constructor
  · rintro ⟨e, he, h⟩
    split at h
    · rename_i hb; exact ⟨e, he, hb, by injection h⟩
    · cases h
  · rintro ⟨e, he, hb, rfl⟩
    exact ⟨e, he, by rw [if_pos hb]⟩
def row (acc : List (List Nat)) (o : Oper) : List Nat :=
  (List.range acc.length).filter fun j => (edges o).any fun e => e == j || (acc.getD e []).contains j
def cloFrom (acc : List (List Nat)) : List Oper → List (List Nat)
  | [] => acc
  | o :: l => cloFrom (acc ++ [row acc o]) l
theorem cloFrom_pre (l : List Oper) : ∀ acc, ∃ rest, cloFrom acc l = acc ++ rest ∧ rest.length = l.length ∧
    ∀ i o, l[i]? = some o → rest[i]? = some (row (acc ++ rest.take i) o) := by
  induction l with
  | nil => intro acc; exact ⟨[], by simp [cloFrom], rfl, by simp⟩
  | cons o l ih =>
    intro acc
    obtain ⟨rest, h1, h2, h3⟩ := ih (acc ++ [row acc o])
    refine ⟨row acc o :: rest, by simp [cloFrom, h1], by simp [h2], ?_⟩
    intro i o' ho
    cases i with
    | zero => simp at ho; subst ho; simp
    | succ i => simpa using h3 i o' (by simpa using ho)
def clo (l : List Oper) : List (List Nat) := cloFrom [] l
theorem clo_closed {l : List Oper} {S : Nat → Bool} (hS : ∀ i o, l[i]? = some o → S i = true → ∀ e ∈ o.after, Region.binds .any e = true → S e.on = true)
    {i : Nat} {o : Oper} (ho : l[i]? = some o) (hd : ∀ e ∈ o.after, Region.binds .any e = true → S e.on = true) : ∀ j ∈ (clo l).getD i [], S j = true := by
  obtain ⟨rest, h1, h2, h3⟩ := cloFrom_pre l []
  simp only [List.nil_append] at h1 h3
  have key : ∀ i o, l[i]? = some o → (∀ e ∈ o.after, Region.binds .any e = true → S e.on = true) → ∀ j ∈ (clo l).getD i [], S j = true := by
    intro i
    induction i using Nat.strongRecOn with
    | _ i ih =>
      intro o ho hd j hj
      have hr := h3 i o ho
      rw [clo, h1, List.getD_eq_getElem?_getD, hr] at hj
      simp only [Option.getD_some, row, List.mem_filter, List.mem_range, List.any_eq_true] at hj
      obtain ⟨hlen, k, hk, he⟩ := hj
      rw [Bool.or_eq_true] at he
      obtain ⟨e, hin, hb, hek⟩ := mem_edges.1 hk
      have hSe := hd _ hin hb
      rw [hek] at hSe
      rcases he with h | h
      · have : k = j := by simpa using h
        rw [← this]; exact hSe
      · have hlt : k < i := by
          rcases Nat.lt_or_ge k i with hx | hx
          · exact hx
          · rw [List.getD_eq_getElem?_getD, List.getElem?_eq_none (by simp; omega)] at h
            simp at h
        have hil : i < l.length := (List.getElem?_eq_some_iff.1 ho).1
        have ho' : l[k]? = some (l[k]'(by omega)) := List.getElem?_eq_getElem _
        refine ih _ hlt _ ho' (hS _ _ ho' hSe) j ?_
        rw [clo, h1]
        have hm : j ∈ (rest.take i).getD k [] := by simpa using h
        rw [List.getD_eq_getElem?_getD] at hm ⊢
        rw [List.getElem?_take_of_lt hlt] at hm
        exact hm
  exact key i o ho hd
def dsts (l : List Oper) : List Nat := l.filterMap (·.dst)
def drawOk (N : Nat) (l : List Oper) (m : Nat) : Bool :=
  (List.range l.length).all (fun i => match l[i]? with
    | some o => o.after.toList.all (fun e => !(Region.binds .any e) || Nat.blt e.on i) &&
      (if Nat.blt i m then (match o.dst with | some d => Nat.blt d N && !((dsts (l.take i)).contains d) | none => true)
       else (List.range i).all fun j => ((clo l).getD i []).contains j)
    | none => false) && Nat.ble m l.length
theorem drawOk_spec {N : Nat} {l : List Oper} {m : Nat} (h : drawOk N l m = true) : m ≤ l.length ∧ ∀ i o, l[i]? = some o →
    (∀ e ∈ o.after, Region.binds .any e = true → e.on < i) ∧ (i < m → ∀ d, o.dst = some d → d < N ∧ d ∉ dsts (l.take i)) ∧ (m ≤ i → ∀ j, j < i → j ∈ (clo l).getD i []) := by
  unfold drawOk at h
  rw [Bool.and_eq_true, List.all_eq_true] at h
  obtain ⟨h1, h2⟩ := h
  refine ⟨Nat.le_of_ble_eq_true h2, fun i o ho => ?_⟩
  have hil : i < l.length := (List.getElem?_eq_some_iff.1 ho).1
  have hi := h1 i (List.mem_range.2 hil)
  rw [ho] at hi
  simp only [Bool.and_eq_true] at hi
  obtain ⟨ha, hb⟩ := hi
  refine ⟨fun e he hbe => ?_, fun hm d hd => ?_, fun hm j hj => ?_⟩
  · rw [List.all_eq_true] at ha
    have h3 := ha e (Array.mem_toList_iff.2 he)
    rw [hbe] at h3
    simpa using h3
  · rw [if_pos (show Nat.blt i m = true from Nat.ble_eq_true_of_le hm)] at hb
    rw [hd] at hb
    simp only [Bool.and_eq_true] at hb
    exact ⟨Nat.le_of_ble_eq_true hb.1, by simpa using hb.2⟩
  · have hnb : ¬ Nat.blt i m = true := fun hx => by have := Nat.le_of_ble_eq_true hx; omega
    rw [if_neg hnb, List.all_eq_true] at hb
    simpa using hb j (List.mem_range.2 hj)
section draw
variable {P : Program} {N : Nat} {Q : Post} {f0 : Fr} {w0 : World}
theorem any_tail {l : List Oper} {m : Nat} (hok : drawOk N l m = true) : ∀ (n k : Nat) (listed : Array Bool) (a : Act) (w : World), l.length ≤ n + k → k ≤ l.length → m ≤ k → listed.size = l.length →
    (∀ i, i < l.length → listed.getD i true = decide (i < k)) → wpList P l.toArray (lift N Q) (l.drop k) a w → wpAny P .any l.toArray (lift N Q) n listed a w := by
  obtain ⟨hml, hspec⟩ := drawOk_spec hok
  intro n
  induction n with
  | zero =>
    intro k listed a w hn hn2 hm hs hl h
    have hk : k = l.length := by omega
    rw [hk, List.drop_length] at h
    refine ⟨?_, h⟩
    rw [Region.ready, List.filter_eq_nil_iff]
    intro i hi
    have hi' : i < l.length := by simpa using hi
    rw [hl i hi']
    simp; omega
  | succ n ih =>
    intro k listed a w hn hn2 hm hs hl h
    rcases Nat.lt_or_ge k l.length with hk | hk
    case inr =>
      have hk : k = l.length := by omega
      have hnil : Region.ready .any l.toArray listed = [] := by
        rw [Region.ready, List.filter_eq_nil_iff]
        intro i hi
        have hi' : i < l.length := by simpa using hi
        rw [hl i hi']
        simp; omega
      rw [hk, List.drop_length] at h
      refine ⟨fun _ => h, fun i hi => ?_⟩
      rw [hnil] at hi
      cases hi
    have hready : ∀ i, i ∈ Region.ready .any l.toArray listed → i = k := by
      intro i hi
      rw [Region.ready, List.mem_filter] at hi
      obtain ⟨hi1, hi2⟩ := hi
      have hi' : i < l.length := by simpa using hi1
      rw [Bool.and_eq_true, hl i hi'] at hi2
      obtain ⟨hi3, hi4⟩ := hi2
      have hki : k ≤ i := by simpa using hi3
      rcases Nat.lt_or_ge k i with hlt | hge
      · exfalso
        have ho : l[i]? = some l[i] := List.getElem?_eq_getElem hi'
        have hpre := (hspec i _ ho).2.2 (by omega) k hlt
        have hS : ∀ i o, l[i]? = some o → (fun j => decide (j < k)) i = true → ∀ e ∈ o.after, Region.binds .any e = true → (fun j => decide (j < k)) e.on = true := by
          intro i o ho hi e he hbe
          have := (hspec i o ho).1 e he hbe
          simp at hi ⊢; omega
        have hd : ∀ e ∈ (l[i]).after, Region.binds .any e = true → (fun j => decide (j < k)) e.on = true := by
          intro e he hb
          simp only [List.getElem?_toArray, ho, Option.map_some, Option.getD_some, Array.all_eq_true_iff_forall_mem] at hi4
          have h1 := hi4 e he
          rw [hb] at h1
          have h2 := (hspec i _ ho).1 e he hb
          have h3 := hl e.on (by omega)
          have h4 : listed.getD e.on true = true := by
            rw [Array.getD_eq_getD_getElem?] at *
            cases hx : listed[e.on]? with
            | none => rfl
            | some b => rw [hx] at h1; simpa using h1
          rw [h4] at h3
          simpa using h3.symm
        have := clo_closed hS ho hd k hpre
        simp at this
      · omega
    refine ⟨fun hnil => ?_, fun i hi => ?_⟩
    · exfalso
      have hkr : k ∈ Region.ready .any l.toArray listed := by
        rw [Region.ready, List.mem_filter]
        refine ⟨by simp [hk], ?_⟩
        have ho : l[k]? = some l[k] := List.getElem?_eq_getElem hk
        rw [Bool.and_eq_true, hl k hk]
        refine ⟨by simp, ?_⟩
        simp only [List.getElem?_toArray, ho, Option.map_some, Option.getD_some, Array.all_eq_true_iff_forall_mem]
        intro e he
        by_cases hbe : Region.binds .any e = true
        case neg => simp [hbe]
        have h2 := (hspec k _ ho).1 e he hbe
        have h3 := hl e.on (by omega)
        have h4 : listed[e.on]? = some (listed[e.on]'(by omega)) := Array.getElem?_eq_getElem _
        rw [Array.getD_eq_getD_getElem?, h4] at h3
        simp only [Array.getD_eq_getD_getElem?, h4]
        simp at h3 ⊢
        right
        simp [h3, h2]
      rw [hnil] at hkr
      cases hkr
    · have := hready i hi
      subst this
      have ho : l[i]? = some l[i] := List.getElem?_eq_getElem hk
      rw [List.drop_eq_getElem_cons hk] at h
      have ho2 : l.toArray[i]? = some l[i] := by simp
      unfold wpOp
      rw [ho2]
      simp only [wpList] at h ⊢
      have hnext : ∀ a w, wpList P l.toArray (lift N Q) (l.drop (i + 1)) a w → wpAny P .any l.toArray (lift N Q) n (listed.setIfInBounds i true) a w := by
        intro a w hh
        refine ih (i + 1) _ a w (by omega) (by omega) (by omega) (by simpa using hs) ?_ hh
        intro j hj
        rw [Array.getD_eq_getD_getElem?]
        by_cases hji : j = i
        · subst hji
          rw [Array.getElem?_setIfInBounds_self_of_lt (by omega)]
          simp
        · rw [Array.getElem?_setIfInBounds_ne (Ne.symm hji), ← Array.getD_eq_getD_getElem?, hl j hj]
          simp; omega
      split at h
      · rename_i hw
        rw [if_pos hw]
        exact h.imp (Oper.wp_mono hnext) id
      · rename_i hw
        rw [if_neg hw]
        exact hnext _ _ h
def Same (D : List Nat) (f0 f : Fr) : Prop := ∀ k, D.contains k = false → f k = f0 k
def updO (f : Fr) : Option Nat → Value → Fr
  | some d, v => upd f d v
  | none, _ => f
def opJ (o : Oper) (f : Fr) (w : World) (p : VP) (F : World → World → Prop) (J : Fr → World → Prop) : Post := fun e f' w' => e = .normal ∧ F w w' ∧ J f' w' ∧ ∃ v, f' = updO f o.dst v ∧ ∀ d, o.dst = some d → p v w'
theorem op_of_J {ops : Array Oper} {o : Oper} {f : Fr} {w : World} {p : VP} {F : World → World → Prop} {J : Fr → World → Prop} {a : Act} (ha : Okay N a) (hl : look a = f) (h : L P N ops [o] (opJ o f w p F J) f w) {Q' : Post} {K : Act → World → Prop}
    (hK : ∀ a' w', Okay N a' → F w w' → J (look a') w' → (∃ v, look a' = updO f o.dst v ∧ ∀ d, o.dst = some d → p v w') → K a' w') :
    if Region.wanted o (yielded ops a.tmps) then o.wp P a w K (lift N Q') ∨ (o.asks P a w ∧ LetsOut (lift N Q')) else K (a.put o.dst undef) w := by
  have h1 := h a ha hl
  unfold wpList at h1
  have hend : ∀ a' w', wpList P ops (lift N (opJ o f w p F J)) [] a' w' → K a' w' := fun a' w' ⟨ho, _, he, hj, hx⟩ => hK a' w' ho he hj hx
  split at h1
  · rename_i hw
    rw [if_pos hw]
    rcases h1 with h1 | ⟨_, a', w', _, he, _⟩
    · left
      have h2 := Oper.wp_mono (K' := K) hend h1
      unfold Oper.wp at h2 ⊢
      generalize (execOp a.eval o).run P w = r at h2 ⊢
      cases r with
      | ok n w' =>
        cases n <;> simp only [Oper.upon] at h2 ⊢ <;>
          first
            | exact h2
            | exact Calls.mono h2 (fun e w'' he => by
                cases e with
                | returned v => exact he
                | panicked c => obtain ⟨_, he, _⟩ := he; cases he
                | outgrown => obtain ⟨_, _, _, he, _⟩ := he; cases he)
      | halt x w' =>
        cases x <;> simp only [Oper.upon] at h2 ⊢
        obtain ⟨_, he, _⟩ := h2
        cases he
    · cases he
  · rename_i hw
    rw [if_neg hw]
    exact hend _ _ h1
theorem W_drawJ {id : Nat} {l : List Oper} (m : Nat) (Ψ : Nat → VP) (F : World → World → Prop) (J : (Nat → Bool) → Fr → World → Prop) (hmix : P.follows .mixedOrders = true) (hok : drawOk N l m = true)
    (ht : ∀ a b c, F a b → F b c → F a c) (h0 : F w0 { w0 with drawn := w0.drawn + 1 }) (hJ0 : J (fun _ => false) f0 { w0 with drawn := w0.drawn + 1 }) (hmono : ∀ i, i < m → ∀ v w w', Ψ i v w → F w w' → Ψ i v w')
    (hops : ∀ i o, i < m → l[i]? = some o → ∀ f w S, Same (dsts (l.take m)) f0 f → F w0 w → J S f w → S i = false →
      (∀ j o', (edges o).contains j = true → l[j]? = some o' → S j = true ∧ ∀ d, o'.dst = some d → Ψ j (f d) w) → L P N l.toArray [o] (opJ o f w (Ψ i) F (J fun j => S j || j == i)) f w)
    (htail : ∀ f w S, Same (dsts (l.take m)) f0 f → F w0 w → J S f w → (∀ i, i < m → S i = true) → (∀ i d o, i < m → l[i]? = some o → o.dst = some d → Ψ i (f d) w) → L P N l.toArray (l.drop m) Q f w) :
    W P N (.region id l.toArray true) Q f0 w0 := by
  obtain ⟨hml, hspec⟩ := drawOk_spec hok
  intro a0 ha0 hl0
  refine wp_region_any hmix ?_
  have key : ∀ (n : Nat) (u : List Nat) (listed : Array Bool) (a : Act) (w : World), u.Nodup → u.length + (l.length - m) ≤ n → listed.size = l.length →
      (∀ i, i < l.length → (listed.getD i true = false ↔ i ∈ u ∨ m ≤ i)) → (∀ i ∈ u, i < m) →
      (∀ j o, l[j]? = some o → listed.getD j true = true → ∀ e ∈ o.after, Region.binds .any e = true → listed.getD e.on true = true) → Okay N a → Same (dsts (l.take m)) f0 (look a) → F w0 w → J (fun j => decide (j < m ∧ j ∉ u)) (look a) w →
      (∀ i d o, i < m → i ∉ u → l[i]? = some o → o.dst = some d → Ψ i (look a d) w) → wpAny P .any l.toArray (lift N Q) n listed a w := by
    intro n
    induction n with
    | zero =>
      intro u listed a w hu hn hs hl hum hcl ha hsame hext hJ hfacts
      have hu0 : u = [] := List.eq_nil_of_length_eq_zero (by omega)
      subst hu0
      refine any_tail hok 0 m listed a w (by simp at hn; omega) hml (Nat.le_refl _) hs ?_ (htail _ _ _ hsame hext hJ (fun i hi => by simp [hi]) (fun i d o hi => hfacts i d o hi (by simp)) a ha rfl)
      intro i hi
      have := hl i hi
      cases hx : listed.getD i true with
      | false => have := this.1 hx; simp at this; simp; omega
      | true =>
        have h2 : ¬ (m ≤ i) := fun h => by have := this.2 (.inr h); rw [hx] at this; cases this
        simp; omega
    | succ n ih =>
      intro u listed a w hu hn hs hl hum hcl ha hsame hext hJ hfacts
      by_cases hu0 : u = []
      · subst hu0
        refine any_tail hok (n + 1) m listed a w (by simp at hn; omega) hml (Nat.le_refl _) hs ?_ (htail _ _ _ hsame hext hJ (fun i hi => by simp [hi]) (fun i d o hi => hfacts i d o hi (by simp)) a ha rfl)
        intro i hi
        have := hl i hi
        cases hx : listed.getD i true with
        | false => have := this.1 hx; simp at this; simp; omega
        | true =>
          have h2 : ¬ (m ≤ i) := fun h => by have := this.2 (.inr h); rw [hx] at this; cases this
          simp; omega
      · -- an operation that is ready is one of the first m
        have hlisted : ∀ j, j < l.length → listed.getD j true = true → j < m ∧ j ∉ u := by
          intro j hj hx
          have := hl j hj
          refine ⟨?_, fun h => ?_⟩
          · rcases Nat.lt_or_ge j m with h | h
            · exact h
            · have := this.2 (.inr h); rw [hx] at this; cases this
          · have := this.2 (.inl h); rw [hx] at this; cases this
        have hS : ∀ i, i ∈ Region.ready .any l.toArray listed → ∀ o, l[i]? = some o → ∀ e ∈ o.after, Region.binds .any e = true → listed.getD e.on true = true := by
          intro i hi o ho e he hb
          rw [Region.ready, List.mem_filter, Bool.and_eq_true] at hi
          obtain ⟨_, _, hi4⟩ := hi
          simp only [List.getElem?_toArray, ho, Option.map_some, Option.getD_some, Array.all_eq_true_iff_forall_mem] at hi4
          have h1 := hi4 e he
          rw [hb] at h1
          rw [Array.getD_eq_getD_getElem?] at h1 ⊢
          cases hx : listed[e.on]? with
          | none => rfl
          | some b => rw [hx] at h1; simpa using h1
        have hnot : Region.ready .any l.toArray listed ≠ [] := by
          intro hnil
          have hex : ∃ i, i ∈ u ∧ ∀ j ∈ u, i ≤ j := by
            clear hl hum hfacts hn hu hlisted hJ
            induction u with
            | nil => exact absurd rfl hu0
            | cons x u ihu =>
              by_cases hu1 : u = []
              · subst hu1; exact ⟨x, by simp, by simp⟩
              · obtain ⟨i, hi, hmin⟩ := ihu hu1
                rcases Nat.le_total x i with h | h
                · exact ⟨x, by simp, fun j hj => by
                    rcases List.mem_cons.1 hj with rfl | hj
                    · exact Nat.le_refl _
                    · exact Nat.le_trans h (hmin j hj)⟩
                · exact ⟨i, by simp [hi], fun j hj => by
                    rcases List.mem_cons.1 hj with rfl | hj
                    · exact h
                    · exact hmin j hj⟩
          obtain ⟨i, hi, hmin⟩ := hex
          have him := hum i hi
          have hil : i < l.length := by omega
          have : i ∈ Region.ready .any l.toArray listed := by
            rw [Region.ready, List.mem_filter]
            refine ⟨by simp [hil], ?_⟩
            have ho : l[i]? = some l[i] := List.getElem?_eq_getElem hil
            rw [Bool.and_eq_true, (hl i hil).2 (.inl hi)]
            refine ⟨rfl, ?_⟩
            simp only [List.getElem?_toArray, ho, Option.map_some, Option.getD_some, Array.all_eq_true_iff_forall_mem]
            intro e he
            by_cases hbe : Region.binds .any e = true
            case neg => simp [hbe]
            have h2 := (hspec i _ ho).1 e he hbe
            have h3 : listed.getD e.on true = true := by
              cases hx : listed.getD e.on true with
              | true => rfl
              | false =>
                rcases (hl e.on (by omega)).1 hx with h | h
                · have := hmin _ h; omega
                · omega
            have h4 : listed[e.on]? = some (listed[e.on]'(by omega)) := Array.getElem?_eq_getElem _
            rw [Array.getD_eq_getD_getElem?, h4] at h3
            simp only [Array.getD_eq_getD_getElem?, h4]
            simp at h3 ⊢
            right; exact h3
          rw [hnil] at this
          cases this
        refine ⟨fun h => absurd h hnot, fun i hi => ?_⟩
        have hi0 := hi
        rw [Region.ready, List.mem_filter, Bool.and_eq_true] at hi0
        obtain ⟨hi1, hi2, _⟩ := hi0
        have hil : i < l.length := by simpa using hi1
        have ho : l[i]? = some l[i] := List.getElem?_eq_getElem hil
        have hun : listed.getD i true = false := by simpa using hi2
        have hiu : i ∈ u := by
          rcases (hl i hil).1 hun with h | h
          · exact h
          · exfalso
            have hclo := clo_closed (l := l) (S := fun j => decide (j < l.length) && listed.getD j true) (by
              intro j oj hoj hSj e he hb
              rw [Bool.and_eq_true] at hSj
              have hjl : j < l.length := (List.getElem?_eq_some_iff.1 hoj).1
              have hj := hlisted j hjl hSj.2
              have hlt := (hspec j oj hoj).1 e he hb
              rw [Bool.and_eq_true]
              refine ⟨by simp; omega, ?_⟩
              exact hcl j oj hoj hSj.2 e he hb) ho (by
              intro e he hb
              have hlt := (hspec i _ ho).1 e he hb
              rw [Bool.and_eq_true]
              exact ⟨by simp; omega, hS i hi _ ho e he hb⟩)
            obtain ⟨x, hx⟩ : ∃ x, x ∈ u := by
              cases u with
              | nil => exact absurd rfl hu0
              | cons x u => exact ⟨x, by simp⟩
            have hxm := hum x hx
            have := hclo x ((hspec i _ ho).2.2 h x (by omega))
            rw [Bool.and_eq_true] at this
            exact (hlisted x (by omega) this.2).2 hx
        have him := hum i hiu
        have hdist : ∀ j oj dj d, j < m → j ≠ i → l[j]? = some oj → oj.dst = some dj → l[i].dst = some d → dj ≠ d := by
          intro j oj dj d hjm hji hoj hdj hd
          have hdn := ((hspec i _ ho).2.1 him d hd).2
          rcases Nat.lt_or_ge j i with h | h
          · rintro rfl
            exact hdn (List.mem_filterMap.2 ⟨oj, by
              have : (l.take i)[j]? = some oj := by rw [List.getElem?_take_of_lt h]; exact hoj
              exact List.mem_of_getElem? this, hdj⟩)
          · obtain ⟨_, hdn'⟩ := (hspec j oj hoj).2.1 hjm dj hdj
            rintro rfl
            exact hdn' (List.mem_filterMap.2 ⟨l[i], by
              have : (l.take j)[i]? = some l[i] := by rw [List.getElem?_take_of_lt (by omega)]; exact ho
              exact List.mem_of_getElem? this, hd⟩)
        have hdin : ∀ d, l[i].dst = some d → (dsts (l.take m)).contains d = true := by
          intro d hd
          rw [List.contains_iff_mem]
          exact List.mem_filterMap.2 ⟨l[i], by
            have : (l.take m)[i]? = some l[i] := by rw [List.getElem?_take_of_lt him]; exact ho
            exact List.mem_of_getElem? this, hd⟩
        have hop := hops i _ him ho (look a) w _ hsame hext hJ (by simp [hiu]) (by
          intro j oj hj hoj
          rw [List.contains_iff_mem, mem_edges] at hj
          obtain ⟨e, hin, hb, hon⟩ := hj
          have hlt := (hspec i _ ho).1 _ hin hb
          have hx := hS i hi _ ho _ hin hb
          rw [hon] at hx hlt
          have := hlisted j (by omega) hx
          exact ⟨by simp [this.1, this.2], fun dj hdj => hfacts j dj oj this.1 this.2 hoj hdj⟩)
        unfold wpOp
        rw [show l.toArray[i]? = some l[i] from by simp [hil]]
        refine op_of_J ha rfl hop ?_
        rintro a' w' ha' he hj' ⟨v, hlook, hp⟩
        refine ih (u.erase i) _ a' w' (hu.erase i) ?_ (by simpa using hs) ?_ ?_ ?_ ha' ?_ (ht _ _ _ hext he) ?_ ?_
        · rw [List.length_erase_of_mem hiu]
          have : 0 < u.length := List.length_pos_of_mem hiu
          omega
        · intro j hj
          rw [hu.mem_erase_iff]
          by_cases hji : j = i
          · subst hji
            rw [Array.getD_eq_getD_getElem?, Array.getElem?_setIfInBounds_self_of_lt (by omega)]
            simp; omega
          · rw [Array.getD_eq_getD_getElem?, Array.getElem?_setIfInBounds_ne (Ne.symm hji), ← Array.getD_eq_getD_getElem?, hl j hj]
            simp [hji]
        · intro j hj
          exact hum j (List.mem_of_mem_erase hj)
        · intro j oj hoj hj e he' hb
          have hgrow : ∀ x, listed.getD x true = true → (listed.setIfInBounds i true).getD x true = true := by
            intro x hx
            by_cases hxi : x = i
            · subst hxi
              rw [Array.getD_eq_getD_getElem?, Array.getElem?_setIfInBounds_self_of_lt (by omega)]; rfl
            · rw [Array.getD_eq_getD_getElem?, Array.getElem?_setIfInBounds_ne (Ne.symm hxi), ← Array.getD_eq_getD_getElem?]; exact hx
          by_cases hji : j = i
          · subst hji
            rw [ho] at hoj
            injection hoj with hoj
            subst hoj
            exact hgrow _ (hS j hi _ ho e he' hb)
          · rw [Array.getD_eq_getD_getElem?, Array.getElem?_setIfInBounds_ne (Ne.symm hji), ← Array.getD_eq_getD_getElem?] at hj
            exact hgrow _ (hcl j oj hoj hj e he' hb)
        · intro k hk
          rw [hlook]
          cases hd : l[i].dst with
          | none => exact hsame k hk
          | some d =>
            have : k ≠ d := by rintro rfl; rw [hdin _ hd] at hk; cases hk
            simp only [updO, upd, this, if_false]
            exact hsame k hk
        · have hS' : (fun j => decide (j < m ∧ j ∉ u) || j == i) = fun j => decide (j < m ∧ j ∉ u.erase i) := by
            funext j
            rw [Bool.eq_iff_iff]
            simp only [Bool.or_eq_true, decide_eq_true_eq, beq_iff_eq, hu.mem_erase_iff]
            constructor
            · rintro (⟨h1, h2⟩ | rfl)
              · exact ⟨h1, fun h => h2 h.2⟩
              · exact ⟨him, fun h => h.1 rfl⟩
            · rintro ⟨h1, h2⟩
              by_cases hji : j = i
              · exact .inr hji
              · exact .inl ⟨h1, fun h => h2 ⟨hji, h⟩⟩
          rw [← hS']
          exact hj'
        · intro j dj oj hjm hju hoj hdj
          by_cases hji : j = i
          · subst hji
            rw [ho] at hoj
            injection hoj with hoj
            subst hoj
            rw [hlook, hdj]
            simpa [updO, upd] using hp dj hdj
          · have hlk : look a' dj = look a dj := by
              rw [hlook]
              cases hd : l[i].dst with
              | none => rfl
              | some d =>
                have hne := hdist j oj dj d hjm hji hoj hdj hd
                simp only [updO, upd, hne, if_false]
            rw [hlk]
            exact hmono j hjm _ _ _ (hfacts j dj oj hjm (fun h => hju (by rw [hu.mem_erase_iff]; exact ⟨hji, h⟩)) hoj hdj) he
  have hlen : l.toArray.size = l.length := by simp
  rw [hlen]
  refine key l.length (List.range m) _ a0 _ List.nodup_range (by simp; omega) (by simp) ?_ (by simp) ?_ ha0 (fun k _ => by rw [hl0]) h0 ?_ ?_
  · intro i hi
    simp [Array.getD_eq_getD_getElem?, hi]
    omega
  · intro j o hj hx
    have : j < l.length := (List.getElem?_eq_some_iff.1 hj).1
    simp [Array.getD_eq_getD_getElem?, this] at hx
  · have e : (fun j => decide (j < m ∧ j ∉ List.range m)) = fun _ : Nat => false := by
      funext j
      simp
    rw [e, hl0]; exact hJ0
  · intro i d o hi hni
    simp at hni
    omega
end draw
theorem upd_at {f : Fr} {d : Nat} {v : Value} : upd f d v d = v := by simp [upd]
theorem upd_ne {f : Fr} {d k : Nat} {v : Value} (h : k ≠ d) : upd f d v k = f k := by simp [upd, h]
abbrev PF := Value → FH → Prop
def MonoF (p : PF) : Prop := ∀ v H H', p v H → Le H H' → p v H'
def anyF : PF := fun _ _ => True
def isV (x : Value) : PF := fun v _ => v = x
def isData {α : Type} (r : RP α) (x : α) : PF := fun v H => r.rel H [v] x
def exD (p : PF) (q : Value → PF) : PF := fun v H => ∃ u, p u H ∧ q u v H
def tup2 (p q : PF) : PF := fun v H => ∃ a b, v = .tuple #[a, b] ∧ p a H ∧ q b H
def isEl {α : Type} (r : RP α) (x : α) (off : Nat) : PF := fun v H => ∃ g o cs, v = .pointer (some ⟨g, o + off, none⟩) ∧ r.rel H cs x ∧ AtH H g o cs
theorem mono_any : MonoF anyF := fun _ _ _ _ _ => trivial
theorem mono_V (x : Value) : MonoF (isV x) := fun _ _ _ h _ => h
theorem mono_data {α : Type} (r : RP α) (x : α) : MonoF (isData r x) := fun _ _ _ h k => r.mono h k
theorem mono_exD {p : PF} {q : Value → PF} (h : MonoF p) (k : ∀ u, MonoF (q u)) : MonoF (exD p q) := fun _ _ _ ⟨u, a, b⟩ l => ⟨u, h _ _ _ a l, k u _ _ _ b l⟩
theorem mono_tup2 {p q : PF} (h : MonoF p) (k : MonoF q) : MonoF (tup2 p q) := fun _ _ _ ⟨a, b, hv, x, y⟩ l => ⟨a, b, hv, h _ _ _ x l, k _ _ _ y l⟩
theorem mono_el {α : Type} (r : RP α) (x : α) (off : Nat) : MonoF (isEl r x off) := fun _ _ _ ⟨g, o, cs, hv, h, a⟩ l => ⟨g, o, cs, hv, r.mono h l, a.le l⟩
def AllMonoF (ps : List PF) : Prop := ∀ i, MonoF (ps.getD i anyF)
theorem amF_nil : AllMonoF [] := fun i => by cases i <;> exact mono_any
theorem amF_cons {p : PF} {ps : List PF} (h : MonoF p) (hs : AllMonoF ps) : AllMonoF (p :: ps) := fun i => by
  cases i with
  | zero => exact h
  | succ i => exact hs i
inductive Ent
  | base (A : Ass) (c : Option Nat)
  | made (p d : Nat) (A : Value → Ass) (c : Option Nat)
  | madeN (p : Nat) (ds : List Nat) (A : List Value → Ass) (c : Option Nat)
def Ent.ass (f : Fr) : Ent → Ass
  | .base A _ => A
  | .made _ d A _ => A (f d)
  | .madeN _ ds A _ => A (ds.map f)
def Ent.cons : Ent → Option Nat
  | .base _ c => c
  | .made _ _ _ c => c
  | .madeN _ _ _ c => c
def Ent.prod : Ent → Option Nat
  | .base _ _ => none
  | .made p _ _ _ => some p
  | .madeN p _ _ _ => some p
def Ent.slot : Ent → List Nat
  | .base _ _ => []
  | .made _ d _ _ => [d]
  | .madeN _ ds _ _ => ds
def slotOk (C : List (List Nat)) (l : List Oper) (m p d : Nat) : Bool := (List.range m).any fun q => (Nat.beq q p || (C.getD p []).contains q) && (match (l[q]?).bind (·.dst) with | some d' => Nat.beq d d' | none => false)
def Ent.live (S : Nat → Bool) (e : Ent) : Bool := (match e.prod with | none => true | some p => S p) && (match e.cons with | none => true | some q => !S q)
def assI (E : List Ent) (f : Fr) (k : Nat) : Ass := match E[k]? with | some e => e.ass f | none => emp
def liveK (E : List Ent) (S : Nat → Bool) : List Nat := (List.range E.length).filter fun k => match E[k]? with | some e => e.live S | none => false
def baseK (E : List Ent) : List Nat := (List.range E.length).filter fun k => match E[k]? with | some e => e.prod.isNone | none => false
def endK (E : List Ent) : List Nat := (List.range E.length).filter fun k => match E[k]? with | some e => e.cons.isNone | none => false
def shareOk (C : List (List Nat)) (l : List Oper) (m : Nat) (E : List Ent) (i : Nat) (ins outs : List Nat) : Bool :=
  (List.range E.length).all (fun k => match E[k]? with
    | none => true
    | some e =>
      let took := match e.cons with | some q => Nat.beq q i | none => false
      let made := match e.prod with | some p => Nat.beq p i | none => false
      (!(ins.contains k) || ((match e.prod with | none => true | some p => (C.getD i []).contains p) && (match e.cons with | none => true | some q => Nat.beq q i || (C.getD q []).contains i))) &&
      (outs.contains k == ((ins.contains k && !took) || made)) && (!took || ins.contains k) && (!(took && made))) &&
  ins.all (fun k => Nat.blt k E.length) && outs.all (fun k => Nat.blt k E.length) && decide ins.Nodup && decide outs.Nodup
def entsOk (l : List Oper) (m : Nat) (E : List Ent) (IO : List (List Nat × List Nat)) : Bool :=
  let C := clo l
  (List.range m).all (fun i => match IO[i]? with | some io => shareOk C l m E i io.1 io.2 | none => false) &&
  E.all (fun e => (match e.prod with | none => true | some p => Nat.blt p m && e.slot.all (slotOk C l m p)) && (match e.cons with | none => true | some q => Nat.blt q m))
def Ent.shape (e : Ent) : Option Nat × List Nat × Option Nat := (e.prod, e.slot, e.cons)
def shareS (C : List (List Nat)) (S : List (Option Nat × List Nat × Option Nat)) (i : Nat) (ins outs : List Nat) : Bool :=
  (List.range S.length).all (fun k => match S[k]? with
    | none => true
    | some e =>
      let took := match e.2.2 with | some q => Nat.beq q i | none => false
      let made := match e.1 with | some p => Nat.beq p i | none => false
      (!(ins.contains k) || ((match e.1 with | none => true | some p => (C.getD i []).contains p) && (match e.2.2 with | none => true | some q => Nat.beq q i || (C.getD q []).contains i))) &&
      (outs.contains k == ((ins.contains k && !took) || made)) && (!took || ins.contains k) && (!(took && made))) &&
  ins.all (fun k => Nat.blt k S.length) && outs.all (fun k => Nat.blt k S.length) && decide ins.Nodup && decide outs.Nodup
def entsS (l : List Oper) (m : Nat) (S : List (Option Nat × List Nat × Option Nat)) (IO : List (List Nat × List Nat)) : Bool :=
  let C := clo l
  (List.range m).all (fun i => match IO[i]? with | some io => shareS C S i io.1 io.2 | none => false) &&
  S.all (fun e => (match e.1 with | none => true | some p => Nat.blt p m && e.2.1.all (slotOk C l m p)) && (match e.2.2 with | none => true | some q => Nat.blt q m))
theorem entsOk_of {l : List Oper} {m : Nat} {E : List Ent} {S : List (Option Nat × List Nat × Option Nat)} {IO : List (List Nat × List Nat)} (hS : E.map Ent.shape = S) (h : entsS l m S IO = true) : entsOk l m E IO = true := by
  subst hS
  have hsh : ∀ i ins outs, shareS (clo l) (E.map Ent.shape) i ins outs = shareOk (clo l) l m E i ins outs := by
    intro i ins outs
    unfold shareS shareOk
    simp only [List.length_map, List.getElem?_map]
    congr 4
    refine congrArg (List.all _) ?_
    funext k
    cases E[k]? <;> rfl
  unfold entsS at h
  unfold entsOk
  simp only [List.all_map] at h
  rw [Bool.and_eq_true] at h ⊢
  refine ⟨?_, h.2⟩
  rw [← h.1]
  congr 1
  funext i
  cases IO[i]? with
  | none => rfl
  | some io => exact (hsh i io.1 io.2).symm
section drawS
variable {P : Program} {N : Nat} {Q : Post} {f0 : Fr} {w0 : World} {H0 : FH}
def PreF (l : List Oper) (ps : List PF) (o : Oper) (f : Fr) (H : FH) : Prop := ∀ j d, (edges o).contains j = true → (l[j]?).bind (·.dst) = some d → ps.getD j anyF (f d) H
def FactsF (l : List Oper) (ps : List PF) (m : Nat) (f : Fr) (H : FH) : Prop := ∀ i d, Nat.blt i m = true → (l[i]?).bind (·.dst) = some d → ps.getD i anyF (f d) H
def opS (o : Oper) (f : Fr) (H : FH) (p : PF) (St : FH → World → Fr → Prop) : Post := fun e f' w' => e = .normal ∧ ∃ v H', f' = updO f o.dst v ∧ Le H H' ∧ (∀ d, o.dst = some d → p v H') ∧ St H' w' f'
abbrev OpS (P : Program) (N : Nat) (l : List Oper) (ps : List PF) (D : List Nat) (H0 : FH) (f0 : Fr) (base : List Ass) (E : List Ent) (k : Nat) (o : Oper) (ins outs : List Nat) : Prop :=
  ∀ f w H X, Same D f0 f → Le H0 H → PreF l ps o f H → Star H w (base ++ (ins.map (assI E f) ++ X)) →
    L P N l.toArray [o] (opS o f H (ps.getD k anyF) fun H' w' f' => Star H' w' (base ++ (outs.map (assI E f') ++ X))) f w
def OpsS (P : Program) (N : Nat) (l : List Oper) (ps : List PF) (D : List Nat) (H0 : FH) (f0 : Fr) (base : List Ass) (E : List Ent) : Nat → List Oper → List (List Nat × List Nat) → Prop
  | _, [], _ => True
  | _, _ :: _, [] => False
  | k, o :: rest, io :: ios => OpS P N l ps D H0 f0 base E k o io.1 io.2 ∧ OpsS P N l ps D H0 f0 base E (k + 1) rest ios
theorem opsS_nil {l : List Oper} {ps : List PF} {D : List Nat} {base : List Ass} {E : List Ent} {k : Nat} {ios : List (List Nat × List Nat)} : OpsS P N l ps D H0 f0 base E k [] ios := trivial
theorem opsS_cons {l : List Oper} {ps : List PF} {D : List Nat} {base : List Ass} {E : List Ent} {k : Nat} {o : Oper} {rest : List Oper} {io : List Nat × List Nat} {ios : List (List Nat × List Nat)}
    (h : OpS P N l ps D H0 f0 base E k o io.1 io.2) (k' : OpsS P N l ps D H0 f0 base E (k + 1) rest ios) : OpsS P N l ps D H0 f0 base E k (o :: rest) (io :: ios) := ⟨h, k'⟩
theorem opsS_get {l : List Oper} {ps : List PF} {D : List Nat} {base : List Ass} {E : List Ent} : ∀ (u : List Oper) (k : Nat) (ios : List (List Nat × List Nat)), OpsS P N l ps D H0 f0 base E k u ios → ∀ i o, u[i]? = some o →
    ∃ io, ios[i]? = some io ∧ OpS P N l ps D H0 f0 base E (k + i) o io.1 io.2 := by
  intro u
  induction u with
  | nil => intro k _ _ i o ho; simp at ho
  | cons x u ih =>
    intro k ios hk i o ho
    cases ios with
    | nil => exact hk.elim
    | cons io ios =>
      cases i with
      | zero => simp at ho; subst ho; exact ⟨io, rfl, hk.1⟩
      | succ i =>
        obtain ⟨io', h1, h2⟩ := ih (k + 1) ios hk.2 i o (by simpa using ho)
        exact ⟨io', by simpa using h1, by rwa [show k + 1 + i = k + (i + 1) from by omega] at h2⟩
theorem mem_liveK {E : List Ent} {S : Nat → Bool} {k : Nat} : k ∈ liveK E S ↔ ∃ e, E[k]? = some e ∧ e.live S = true := by
  unfold liveK
  rw [List.mem_filter, List.mem_range]
  constructor
  · rintro ⟨h1, h2⟩
    rw [List.getElem?_eq_getElem h1] at h2
    exact ⟨_, List.getElem?_eq_getElem h1, h2⟩
  · rintro ⟨e, h1, h2⟩
    refine ⟨(List.getElem?_eq_some_iff.1 h1).1, ?_⟩
    rw [h1]; exact h2
theorem nodup_liveK {E : List Ent} {S : Nat → Bool} : (liveK E S).Nodup := by
  unfold liveK
  exact List.Nodup.sublist List.filter_sublist List.nodup_range
theorem map_congr {α β : Type} {f g : α → β} : ∀ {l : List α}, (∀ a ∈ l, f a = g a) → l.map f = l.map g := fun h => List.map_congr_left h
theorem L_of_norm {ops : Array Oper} {o : Oper} {f : Fr} {w : World} {R : Post} (h : L P N ops [o] R f w) (hq : ∀ e f' w', R e f' w' → e = .normal ∧ Q .normal f' w') : L P N ops [o] Q f w := by
  intro a ha hl
  have h1 := h a ha hl
  unfold wpList at h1 ⊢
  have hend : ∀ a' w', wpList P ops (lift N R) [] a' w' → wpList P ops (lift N Q) [] a' w' := fun a' w' ⟨ho, hx⟩ => ⟨ho, (hq _ _ _ hx).2⟩
  split at h1
  · rename_i hw
    rw [if_pos hw]
    rcases h1 with h1 | ⟨_, a', w', ho, he⟩
    · left
      have h2 := Oper.wp_mono (K' := fun a w => wpList P ops (lift N Q) [] a w) hend h1
      unfold Oper.wp at h2 ⊢
      generalize (execOp a.eval o).run P w = r at h2 ⊢
      cases r with
      | ok n w' =>
        cases n <;> simp only [Oper.upon] at h2 ⊢ <;>
          first
            | exact h2
            | exact Calls.mono h2 (fun e w'' he => by
                cases e with
                | returned v => exact he
                | panicked c => obtain ⟨_, he⟩ := he; cases (hq _ _ _ he).1
                | outgrown => obtain ⟨_, _, _, he⟩ := he; cases (hq _ _ _ he).1)
      | halt x w' =>
        cases x <;> simp only [Oper.upon] at h2 ⊢
        obtain ⟨_, he⟩ := h2
        cases (hq _ _ _ he).1
    · cases (hq _ _ _ he).1
  · rename_i hw
    rw [if_neg hw]
    exact hend _ _ h1
theorem W_drawS {id : Nat} {l : List Oper} (m : Nat) (ps : List PF) (base : List Ass) (E : List Ent) (R : List Ass) (IO : List (List Nat × List Nat)) (hmix : P.follows .mixedOrders = true) (hok : drawOk N l m = true) {S : List (Option Nat × List Nat × Option Nat)} (hshape : E.map Ent.shape = S) (hents0 : entsS l m S IO = true) (hmono : AllMonoF ps)
    (hst : Star H0 w0 (base ++ ((baseK E).map (assI E f0) ++ R))) (hops : OpsS P N l ps (dsts (l.take m)) H0 f0 base E 0 (l.take m) IO)
    (htail : ∀ f w H, Same (dsts (l.take m)) f0 f → Le H0 H → FactsF l ps m f H → Star H w (base ++ ((endK E).map (assI E f) ++ R)) → L P N l.toArray (l.drop m) Q f w) : W P N (.region id l.toArray true) Q f0 w0 := by
  obtain ⟨hml, hspec⟩ := drawOk_spec hok
  have hents := entsOk_of hshape hents0
  unfold entsOk at hents
  simp only [Bool.and_eq_true, List.all_eq_true, List.mem_range] at hents
  obtain ⟨hsh, hE⟩ := hents
  have hEp : ∀ (k : Nat) (e : Ent) (p : Nat), E[k]? = some e → e.prod = some p → p < m ∧ ∀ d, d ∈ e.slot → ∃ q, q < m ∧ (q = p ∨ q ∈ (clo l).getD p []) ∧ (l[q]?).bind (·.dst) = some d := by
    intro k e p he hp
    have h1 := (hE e (List.mem_of_getElem? he)).1
    rw [hp] at h1
    simp only [Bool.and_eq_true] at h1
    refine ⟨Nat.le_of_ble_eq_true h1.1, fun d hd => ?_⟩
    have h2 := List.all_eq_true.1 h1.2 d hd
    unfold slotOk at h2
    rw [List.any_eq_true] at h2
    obtain ⟨q, hq, h3⟩ := h2
    rw [Bool.and_eq_true, Bool.or_eq_true] at h3
    refine ⟨q, List.mem_range.1 hq, h3.1.imp Nat.eq_of_beq_eq_true (fun h => by simpa using h), ?_⟩
    have h4 := h3.2
    cases e2 : (l[q]?).bind (·.dst) with
    | none => rw [e2] at h4; cases h4
    | some d' => rw [e2] at h4; rw [Nat.eq_of_beq_eq_true h4]
  have hEc : ∀ (k : Nat) (e : Ent) (q : Nat), E[k]? = some e → e.cons = some q → q < m := by
    intro k e q he hq
    have h1 := (hE e (List.mem_of_getElem? he)).2
    rw [hq] at h1
    exact Nat.le_of_ble_eq_true h1
  have hIO : ∀ i, i < m → ∃ io, IO[i]? = some io ∧ shareOk (clo l) l m E i io.1 io.2 = true := by
    intro i hi
    have := hsh i hi
    split at this
    · rename_i io h; exact ⟨io, h, this⟩
    · cases this
  refine W_drawJ m (fun _ => fun _ _ => True) (fun _ _ => True) (fun S f w => (∀ q o, l[q]? = some o → S q = true → ∀ e ∈ o.after, Region.binds .any e = true → S e.on = true) ∧
      ∃ H, Le H0 H ∧ Star H w (base ++ ((liveK E S).map (assI E f) ++ R)) ∧ ∀ i d, i < m → S i = true → (l[i]?).bind (·.dst) = some d → ps.getD i anyF (f d) H)
    hmix hok (fun _ _ _ _ _ => trivial) trivial ⟨fun _ _ _ h => (by cases h), H0, Le.refl _, ?_, fun _ _ _ h => (by cases h)⟩ (fun _ _ _ _ _ _ _ => trivial) ?_ ?_
  · have hb : liveK E (fun _ => false) = baseK E := by
      unfold liveK baseK
      refine List.filter_congr fun k hk => ?_
      cases hE' : E[k]? with
      | none => rfl
      | some e => cases e with
        | base A c => cases c <;> rfl
        | made p d A c => cases c <;> rfl
        | madeN p ds A c => cases c <;> rfl
    rw [hb]
    exact Star.drew _ hst
  · intro i o hi ho f w S hs _ hJ hSi hedge
    obtain ⟨hclosed, H, hle, hst, hf⟩ := hJ
    obtain ⟨io, hio, hop⟩ := opsS_get _ 0 _ hops i o (by rw [List.getElem?_take_of_lt hi]; exact ho)
    obtain ⟨io', hio', hshare⟩ := hIO i hi
    rw [hio] at hio'
    injection hio' with hio'
    subst hio'
    rw [Nat.zero_add] at hop
    have hdd := (hspec i o ho).2.1 hi
    unfold shareOk at hshare
    simp only [Bool.and_eq_true, List.all_eq_true, List.mem_range, decide_eq_true_eq] at hshare
    obtain ⟨⟨⟨⟨hk, hins⟩, houts⟩, hnI⟩, hnO⟩ := hshare
    have hedgeS : ∀ e ∈ o.after, Region.binds .any e = true → S e.on = true := by
      intro e he hb
      have hlt := (hspec i o ho).1 e he hb
      have hj : (edges o).contains e.on = true := by
        rw [List.contains_iff_mem]; exact mem_edges.2 ⟨e, he, hb, rfl⟩
      exact (hedge e.on l[e.on] hj (List.getElem?_eq_getElem (by omega))).1
    have hcloS : ∀ j ∈ (clo l).getD i [], S j = true := clo_closed hclosed ho hedgeS
    have hcloN : ∀ q, q < m → i ∈ (clo l).getD q [] → S q = false := by
      intro q hq hiq
      cases hSq : S q with
      | false => rfl
      | true =>
        have hql : q < l.length := by omega
        have := clo_closed hclosed (List.getElem?_eq_getElem hql) (hclosed q _ (List.getElem?_eq_getElem hql) hSq) i hiq
        rw [hSi] at this; cases this
    have hEl : ∀ (k : Nat), k < E.length → ∃ e : Ent, E[k]? = some e := fun k h => ⟨_, List.getElem?_eq_getElem h⟩
    have hinL : ∀ k ∈ io.1, k ∈ liveK E S := by
      intro k hki
      have hkl : k < E.length := Nat.le_of_ble_eq_true (hins k hki)
      obtain ⟨e, he⟩ := hEl k hkl
      have h1 := hk k hkl
      rw [he] at h1
      simp only [Bool.and_eq_true] at h1
      have h2 := h1.1.1.1
      rw [show io.1.contains k = true from by rw [List.contains_iff_mem]; exact hki] at h2
      simp only [Bool.not_true, Bool.false_or, Bool.and_eq_true] at h2
      refine mem_liveK.2 ⟨e, he, ?_⟩
      unfold Ent.live
      rw [Bool.and_eq_true]
      constructor
      · cases hp : e.prod with
        | none => rfl
        | some p =>
          have h3 := h2.1; rw [hp] at h3
          exact hcloS p (by simpa using h3)
      · cases hc : e.cons with
        | none => rfl
        | some q =>
          have h3 := h2.2; rw [hc] at h3
          simp only [Bool.or_eq_true] at h3
          rcases h3 with h3 | h3
          · have := Nat.eq_of_beq_eq_true h3
            subst this
            simp [hSi]
          · simp [hcloN q (hEc k e q he hc) (by simpa using h3)]
    let restK : List Nat := (liveK E S).filter fun k => !(io.1.contains k)
    have hrest : ∀ k, k ∈ restK ↔ k ∈ liveK E S ∧ k ∉ io.1 := by
      intro k
      simp [restK, List.mem_filter]
    have hnrest : restK.Nodup := List.Nodup.sublist List.filter_sublist nodup_liveK
    have hperm1 : (liveK E S).Perm (io.1 ++ restK) := by
      refine (List.perm_ext_iff_of_nodup nodup_liveK (List.nodup_append.2 ⟨hnI, hnrest, fun a ha b hb e => ?_⟩)).2 fun k => ?_
      · subst e; exact ((hrest a).1 hb).2 ha
      · rw [List.mem_append, hrest]
        constructor
        · intro h
          by_cases hki : k ∈ io.1
          · exact .inl hki
          · exact .inr ⟨h, hki⟩
        · rintro (h | h)
          · exact hinL k h
          · exact h.1
    have hS' : ∀ j, ((fun j => S j || j == i) j) = (S j || j == i) := fun _ => rfl
    have hperm2 : (liveK E (fun j => S j || j == i)).Perm (io.2 ++ restK) := by
      have hliveNew : ∀ (k : Nat) (e : Ent), E[k]? = some e → (e.live (fun j => S j || j == i) = true ↔ k ∈ io.2 ∨ (e.live S = true ∧ k ∉ io.1)) := by
        intro k e he
        have hkl : k < E.length := (List.getElem?_eq_some_iff.1 he).1
        have h1 := hk k hkl
        rw [he] at h1
        simp only [Bool.and_eq_true] at h1
        obtain ⟨⟨⟨hA, hB⟩, hC⟩, hD⟩ := h1
        have hB' : io.2.contains k = ((io.1.contains k && !(match e.cons with | some q => Nat.beq q i | none => false)) || (match e.prod with | some p => Nat.beq p i | none => false)) := by simpa using hB
        have hout : k ∈ io.2 ↔ io.2.contains k = true := by rw [List.contains_iff_mem]
        have hin : k ∈ io.1 ↔ io.1.contains k = true := by rw [List.contains_iff_mem]
        have hliveI : io.1.contains k = true → e.live S = true := fun h => by
          obtain ⟨e', he', hl'⟩ := mem_liveK.1 (hinL k (hin.2 h))
          rw [he] at he'; injection he' with he'; subst he'; exact hl'
        rw [hout, hin, hB']
        unfold Ent.live at hliveI ⊢
        cases hp : e.prod with
        | none =>
          cases hc : e.cons with
          | none =>
            rw [hp, hc] at hliveI
            simp
            by_cases hx : k ∈ io.1
            · exact .inl hx
            · exact .inr hx
          | some q =>
            rw [hp, hc] at hliveI hA
            rw [hc] at hC
            simp only [Bool.true_and] at *
            by_cases hqi : q = i
            · subst hqi
              have : io.1.contains k = true := by
                have h5 : Nat.beq q q = true := Nat.beq_refl q
                rw [h5] at hC; simpa using hC
              simp at this
              simp [this]
            · have h5 : Nat.beq q i = false := by
                cases hx : Nat.beq q i with
                | false => rfl
                | true => exact absurd (Nat.eq_of_beq_eq_true hx) hqi
              have h6 : (q == i) = false := by simpa using hqi
              rw [h5, h6]
              simp
              constructor
              · intro h
                by_cases hx : k ∈ io.1
                · exact .inl hx
                · exact .inr ⟨h, hx⟩
              · rintro (h | h)
                · simpa using hliveI (by simpa using h)
                · exact h.1
        | some p =>
          by_cases hpi : p = i
          · subst hpi
            have hni : io.1.contains k = false := by
              cases hx : io.1.contains k with
              | false => rfl
              | true =>
                have := hliveI hx
                rw [hp] at this
                simp [hSi] at this
            have h5 : Nat.beq p p = true := Nat.beq_refl p
            have h7 : (match e.cons with | some q => Nat.beq q p | none => false) = false := by
              rw [hp] at hD
              simp only [h5, Bool.and_true] at hD
              simpa using hD
            cases hc : e.cons with
            | none => simp [hni, h5]
            | some q =>
              rw [hc] at h7
              simp only at h7
              have hqp : (q == p) = false := by
                cases hx : (q == p) with
                | false => rfl
                | true =>
                  have : q = p := by simpa using hx
                  subst this; rw [Nat.beq_refl] at h7; cases h7
              have hSq : S q = false := by
                obtain ⟨io2, _, hsh2⟩ := hIO q (hEc k e q he hc)
                unfold shareOk at hsh2
                simp only [Bool.and_eq_true, List.all_eq_true, List.mem_range, decide_eq_true_eq] at hsh2
                obtain ⟨⟨⟨⟨hk2, _⟩, _⟩, _⟩, _⟩ := hsh2
                have h8 := hk2 k hkl
                rw [he] at h8
                simp only [Bool.and_eq_true] at h8
                obtain ⟨⟨⟨hA2, _⟩, hC2⟩, _⟩ := h8
                rw [hc] at hC2
                simp only [Nat.beq_refl, Bool.not_true, Bool.false_or] at hC2
                rw [hC2] at hA2
                simp only [Bool.not_true, Bool.false_or, Bool.and_eq_true] at hA2
                have h9 := hA2.1
                rw [hp] at h9
                exact hcloN q (hEc k e q he hc) (by simpa using h9)
              simp [hni, h5, hSq, hqp, hSi]
          · have h5 : Nat.beq p i = false := by
              cases hx : Nat.beq p i with
              | false => rfl
              | true => exact absurd (Nat.eq_of_beq_eq_true hx) hpi
            have h6 : (p == i) = false := by simpa using hpi
            cases hc : e.cons with
            | none =>
              rw [hp, hc] at hliveI
              simp only [h5, h6, Bool.or_false, Bool.and_true, Bool.not_false]
              constructor
              · intro h
                by_cases hx : io.1.contains k = true
                · exact .inl hx
                · exact .inr ⟨h, hx⟩
              · rintro (h | h)
                · simpa using hliveI h
                · exact h.1
            | some q =>
              rw [hp, hc] at hliveI
              rw [hc] at hC
              by_cases hqi : q = i
              · subst hqi
                have : io.1.contains k = true := by
                  have h8 : Nat.beq q q = true := Nat.beq_refl q
                  have hC' : (!(Nat.beq q q) || io.1.contains k) = true := hC
                  rw [h8] at hC'; simpa using hC'
                simp at this
                simp [this, h5]
              · have h7 : Nat.beq q i = false := by
                  cases hx : Nat.beq q i with
                  | false => rfl
                  | true => exact absurd (Nat.eq_of_beq_eq_true hx) hqi
                have h8 : (q == i) = false := by simpa using hqi
                simp only [h5, h6, h7, h8, Bool.or_false, Bool.not_false, Bool.and_true]
                constructor
                · intro h
                  by_cases hx : io.1.contains k = true
                  · exact .inl hx
                  · exact .inr ⟨h, hx⟩
                · rintro (h | h)
                  · exact hliveI h
                  · exact h.1
      refine (List.perm_ext_iff_of_nodup nodup_liveK (List.nodup_append.2 ⟨hnO, hnrest, fun a ha b hb e => ?_⟩)).2 fun k => ?_
      · subst e
        obtain ⟨hl1, hl2⟩ := (hrest a).1 hb
        obtain ⟨e, he, hlive⟩ := mem_liveK.1 hl1
        have hkl : a < E.length := (List.getElem?_eq_some_iff.1 he).1
        have h1 := hk a hkl
        rw [he] at h1
        simp only [Bool.and_eq_true] at h1
        have hB := h1.1.1.2
        rw [show io.2.contains a = true from by rw [List.contains_iff_mem]; exact ha, show io.1.contains a = false from by simpa using hl2] at hB
        unfold Ent.live at hlive
        cases hp : e.prod with
        | none => rw [hp] at hB; simp at hB
        | some p =>
          rw [hp] at hB hlive
          simp only [Bool.false_and, Bool.false_or] at hB
          have h9 : Nat.beq p i = true := by
            cases hx : Nat.beq p i with
            | true => rfl
            | false => rw [hx] at hB; cases hB
          have := Nat.eq_of_beq_eq_true h9
          subst this
          have hlive' : (S p && (match e.cons with | none => true | some q => !S q)) = true := hlive
          rw [hSi] at hlive'
          simp at hlive'
      · rw [List.mem_append, hrest, mem_liveK, mem_liveK]
        constructor
        · rintro ⟨e, he, h⟩
          rcases (hliveNew k e he).1 h with h | h
          · exact .inl h
          · exact .inr ⟨⟨e, he, h.1⟩, h.2⟩
        · rintro (h | ⟨⟨e, he, h1⟩, h2⟩)
          · have hkl : k < E.length := Nat.le_of_ble_eq_true (houts k h)
            obtain ⟨e, he⟩ := hEl k hkl
            exact ⟨e, he, (hliveNew k e he).2 (.inl h)⟩
          · exact ⟨e, he, (hliveNew k e he).2 (.inr ⟨h1, h2⟩)⟩
    have hsame : ∀ v, restK.map (assI E (updO f o.dst v)) = restK.map (assI E f) := by
      intro v
      cases hd : o.dst with
      | none => rfl
      | some d =>
      have hdn := (hdd d hd).2
      refine map_congr fun k hkr => ?_
      obtain ⟨hl1, _⟩ := (hrest k).1 hkr
      obtain ⟨e, he, hlive⟩ := mem_liveK.1 hl1
      unfold assI
      rw [he]
      have hslot : ∀ dd, dd ∈ e.slot → upd f d v dd = f dd := by
        intro dd hdd'
        cases hp : e.prod with
        | none => cases e <;> simp [Ent.prod] at hp; cases hdd'
        | some p =>
        obtain ⟨hpm, hd2⟩ := hEp k e p he hp
        obtain ⟨q, hqm, hqp, hdq⟩ := hd2 dd hdd'
        have hSp : S p = true := by
          unfold Ent.live at hlive
          rw [hp, Bool.and_eq_true] at hlive
          exact hlive.1
        have hSq : S q = true := by
          rcases hqp with rfl | h
          · exact hSp
          · exact clo_closed hclosed (List.getElem?_eq_getElem (by omega)) (hclosed p _ (List.getElem?_eq_getElem (by omega)) hSp) q h
        have hqi : q ≠ i := by rintro rfl; rw [hSi] at hSq; cases hSq
        refine upd_ne ?_
        rintro rfl
        have hlq : q < l.length := by omega
        have eq' : l[q]? = some l[q] := List.getElem?_eq_getElem hlq
        rw [eq'] at hdq
        rcases Nat.lt_or_gt_of_ne hqi with h | h
        · exact hdn (List.mem_filterMap.2 ⟨l[q], by
            have : (l.take i)[q]? = some l[q] := by rw [List.getElem?_take_of_lt h]; exact eq'
            exact List.mem_of_getElem? this, hdq⟩)
        · obtain ⟨_, hdn'⟩ := (hspec q l[q] eq').2.1 hqm dd hdq
          exact hdn' (List.mem_filterMap.2 ⟨o, by
            have : (l.take q)[i]? = some o := by rw [List.getElem?_take_of_lt h]; exact ho
            exact List.mem_of_getElem? this, hd⟩)
      cases e with
      | base A c => rfl
      | madeN p ds A c =>
        have hds : ds.map (upd f d v) = ds.map f := map_congr fun a ha => hslot a ha
        show A (ds.map (upd f d v)) = A (ds.map f)
        rw [hds]
      | made p dd A c =>
        show A (upd f d v dd) = A (f dd)
        rw [hslot dd (by simp [Ent.slot])]
    have hpre : PreF l ps o f H := by
      intro j dj hj hdj
      cases h : l[j]? with
      | none => rw [h] at hdj; cases hdj
      | some o' =>
        rw [h] at hdj
        have hx := hedge j o' hj h
        have hjm : j < m := by
          have hj2 := hj
          rw [List.contains_iff_mem, mem_edges] at hj2
          obtain ⟨e, he, hb, hon⟩ := hj2
          have := (hspec i o ho).1 e he hb
          omega
        exact hf j dj hjm hx.1 (by rw [h]; exact hdj)
    have hst1 : Star H w (base ++ (io.1.map (assI E f) ++ (restK.map (assI E f) ++ R))) := by
      refine hst.perm (List.Perm.append_left base ?_)
      rw [← List.append_assoc]
      refine List.Perm.append_right R ?_
      rw [← List.map_append]
      exact hperm1.map _
    refine L_of_norm (hop f w H _ hs hle hpre hst1) ?_
    rintro ex f' w' ⟨hex, v, H', hf', hle', hp, hst'⟩
    refine ⟨hex, rfl, trivial, ⟨?_, H', hle.trans hle', ?_, ?_⟩, v, hf', fun _ _ => trivial⟩
    · intro q oq hoq hSq e he hb
      rw [Bool.or_eq_true] at hSq ⊢
      rcases hSq with h | h
      · exact .inl (hclosed q oq hoq h e he hb)
      · have : q = i := by simpa using h
        subst this
        rw [ho] at hoq; injection hoq with hoq; subst hoq
        exact .inl (hedgeS e he hb)
    · rw [hf'] at hst' ⊢
      refine hst'.perm (List.Perm.append_left base ?_)
      rw [← hsame v, ← List.append_assoc]
      refine List.Perm.append_right R ?_
      rw [← List.map_append]
      exact (hperm2.map _).symm
    · intro j dj hjm hSj hdj
      rw [hf']
      by_cases hji : j = i
      · subst hji
        rw [ho] at hdj
        have h10 : o.dst = some dj := hdj
        have hp' := hp dj h10
        rw [h10]
        show ps.getD j anyF (upd f dj v dj) H'
        rw [upd_at]; exact hp'
      · have hSj' : S j = true := by
          rw [Bool.or_eq_true] at hSj
          rcases hSj with h | h
          · exact h
          · exact absurd (by simpa using h) hji
        have hlk : updO f o.dst v dj = f dj := by
          cases hd : o.dst with
          | none => rfl
          | some d =>
          have hdn := (hdd d hd).2
          refine upd_ne ?_
          rintro rfl
          have hlj : j < l.length := by omega
          have ej : l[j]? = some l[j] := List.getElem?_eq_getElem hlj
          rw [ej] at hdj
          rcases Nat.lt_or_gt_of_ne hji with h | h
          · exact hdn (List.mem_filterMap.2 ⟨l[j], by
              have : (l.take i)[j]? = some l[j] := by rw [List.getElem?_take_of_lt h]; exact ej
              exact List.mem_of_getElem? this, hdj⟩)
          · obtain ⟨_, hdn'⟩ := (hspec j l[j] ej).2.1 hjm dj hdj
            exact hdn' (List.mem_filterMap.2 ⟨o, by
              have : (l.take j)[i]? = some o := by rw [List.getElem?_take_of_lt h]; exact ho
              exact List.mem_of_getElem? this, hd⟩)
        rw [hlk]
        have hmon := hmono j
        exact hmon _ _ _ (hf j dj hjm hSj' hdj) hle'
  · intro f w S hs _ hJ hS _
    obtain ⟨hclosed, H, hle, hst, hf⟩ := hJ
    refine htail f w H hs hle (fun i d hi hd => hf i d (Nat.le_of_ble_eq_true hi) (hS i (Nat.le_of_ble_eq_true hi)) hd) ?_
    have hb : liveK E S = endK E := by
      unfold liveK endK
      refine List.filter_congr fun k hk => ?_
      cases hE' : E[k]? with
      | none => rfl
      | some e =>
        show e.live S = e.cons.isNone
        unfold Ent.live
        have h1 : (match e.prod with | none => true | some p => S p) = true := by
          cases hp : e.prod with
          | none => rfl
          | some p => exact hS p (hEp k e p hE' hp).1
        rw [h1]
        cases hc : e.cons with
        | none => rfl
        | some q => simp [hS q (hEc k e q hE' hc)]
    rw [hb] at hst
    exact hst
end drawS
end Go.E
