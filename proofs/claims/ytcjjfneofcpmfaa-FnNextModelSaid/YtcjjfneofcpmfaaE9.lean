/- Regions whose order is open, with calls that draw from a source behind a pointer: the source's block turns from call to call. -/
import Derived.Test.YtcjjfneofcpmfaaE6
import Derived.Laws.Cover3
namespace Go.E
open Go Go.RowKit
set_option linter.unusedVariables false

section frame
variable {g : Nat} {t : TypeId} {a b c : World}
theorem fr1_refl {cs : Array Value} (h : Blk a g t cs) : Mut g (some g) t a a :=
  ⟨Below.refl _ _, fun _ _ _ => rfl, fun g' c' t' fz hg hc => by
    have : g = g' := by injection hg
    subst this
    unfold Blk at h
    rw [h] at hc
    injection hc with hc
    injection hc with _ ht _
    exact ht.symm⟩
theorem fr1_trans (h : Mut g (some g) t a b) (k : Mut g (some g) t b c) : Mut g (some g) t a c :=
  ⟨h.below.trans k.below, fun j hj hne => (k.only j (Nat.lt_of_lt_of_le hj h.size) hne).trans (h.only j hj hne), h.typ⟩
theorem fr1_ext (h : Mut g (some g) t a b) (e : Ext b c) (hg : g < a.heap.size) : Mut g (some g) t a c :=
  ⟨h.below.trans (Below.mono e (Nat.le_trans (Nat.le_of_lt hg) h.size)), fun j hj hne => (e.block j (Nat.lt_of_lt_of_le hj h.size)).trans (h.only j hj hne), h.typ⟩
theorem fr1_mut {lo : Nat} {row : Option Nat} {t' : TypeId} (h : Mut g (some g) t a b) (k : Mut lo row t' b c) (hl : a.heap.size ≤ lo) (hg : g < a.heap.size) : Mut g (some g) t a c :=
  ⟨h.below.trans (Below.mono k.below (by omega)), fun j hj hne => (k.below.block j (by omega)).trans (h.only j hj hne), h.typ⟩
theorem fr1_of_ext {cs : Array Value} (h : Blk a g t cs) (e : Ext a b) : Mut g (some g) t a b := fr1_ext (fr1_refl h) e h.lt
theorem New.geS {w w1 w2 : World} {g' : Nat} {t' : TypeId} {cs : Array Value} (n : New w1 w2 g' t' cs) (h : w.heap.size ≤ w1.heap.size) : w.heap.size ≤ g' := by
  have := n.eq; omega
end frame

section draw
variable {P : Program} {N : Nat} {Q : Post} {f0 : Fr} {w0 : World}
/-- the facts that an operation leaves: of its own slot, of the worlds, of what is kept -/
def opR (o : Oper) (f : Fr) (w : World) (p : VP) (F : World → World → Prop) (J : World → Prop) : Post := fun e f' w' => e = .normal ∧ F w w' ∧ J w' ∧ ∃ d v, o.dst = some d ∧ f' = upd f d v ∧ p v w'
/-- one operation of a region, taken out -/
theorem op_of_R {ops : Array Oper} {o : Oper} {f : Fr} {w : World} {p : VP} {F : World → World → Prop} {J : World → Prop} {a : Act} (ha : Okay N a) (hl : look a = f) (h : L P N ops [o] (opR o f w p F J) f w) {Q' : Post} {K : Act → World → Prop}
    (hK : ∀ a' w', Okay N a' → F w w' → J w' → (∃ d v, o.dst = some d ∧ look a' = upd f d v ∧ p v w') → K a' w') :
    if Region.wanted o (yielded ops a.tmps) then o.wp P a w K (lift N Q') ∨ (o.asks P a w ∧ LetsOut (lift N Q')) else K (a.put o.dst undef) w := by
  have h1 := h a ha hl
  unfold wpList at h1
  have hend : ∀ a' w', wpList P ops (lift N (opR o f w p F J)) [] a' w' → K a' w' := fun a' w' ⟨ho, _, he, hj, hx⟩ => hK a' w' ho he hj hx
  split at h1
  · rename_i hw
    rw [if_pos hw]
    rcases h1 with h1 | ⟨_, a', w', _, he, _⟩
    · left
      have h2 := Oper.wp_mono (K' := K) hend h1
      unfold Oper.wp at h2 ⊢
      generalize (execOp a.eval o).run P w = r at h2 ⊢
      cases r with
      | ok n w' =>
        cases n <;> simp only [Oper.upon] at h2 ⊢ <;>
          first
            | exact h2
            | exact Calls.mono h2 (fun e w'' he => by
                cases e with
                | returned v => exact he
                | panicked c => obtain ⟨_, he, _⟩ := he; cases he
                | outgrown => obtain ⟨_, _, _, he, _⟩ := he; cases he)
      | halt x w' =>
        cases x <;> simp only [Oper.upon] at h2 ⊢
        obtain ⟨_, he, _⟩ := h2
        cases he
    · cases he
  · rename_i hw
    rw [if_neg hw]
    exact hend _ _ h1

theorem W_drawG {id : Nat} {l : List Oper} (m : Nat) (Ψ : Nat → VP) (F : World → World → Prop) (J : (Nat → Bool) → World → Prop) (hmix : P.follows .mixedOrders = true) (hok : drawOk N l m = true)
    (ht : ∀ a b c, F a b → F b c → F a c) (h0 : F w0 { w0 with drawn := w0.drawn + 1 }) (hJ0 : J (fun _ => false) { w0 with drawn := w0.drawn + 1 }) (hmono : ∀ i, i < m → ∀ v w w', Ψ i v w → F w w' → Ψ i v w')
    (hops : ∀ i o, i < m → l[i]? = some o → ∀ f w S, Same (dsts (l.take m)) f0 f → F w0 w → J S w → S i = false →
      (∀ j d o', (edges o).contains j = true → l[j]? = some o' → o'.dst = some d → S j = true ∧ Ψ j (f d) w) → L P N l.toArray [o] (opR o f w (Ψ i) F (J fun j => S j || j == i)) f w)
    (htail : ∀ f w S, Same (dsts (l.take m)) f0 f → F w0 w → J S w → (∀ i, i < m → S i = true) → (∀ i d o, i < m → l[i]? = some o → o.dst = some d → Ψ i (f d) w) → L P N l.toArray (l.drop m) Q f w) :
    W P N (.region id l.toArray true) Q f0 w0 := by
  obtain ⟨hml, hspec⟩ := drawOk_spec hok
  intro a0 ha0 hl0
  refine wp_region_any hmix ?_
  have key : ∀ (n : Nat) (u : List Nat) (listed : Array Bool) (a : Act) (w : World), u.Nodup → u.length + (l.length - m) ≤ n → listed.size = l.length →
      (∀ i, i < l.length → (listed.getD i true = false ↔ i ∈ u ∨ m ≤ i)) → (∀ i ∈ u, i < m) →
      (∀ j o, l[j]? = some o → listed.getD j true = true → ∀ e ∈ o.after, Region.binds .any e = true → listed.getD e.on true = true) → Okay N a → Same (dsts (l.take m)) f0 (look a) → F w0 w → J (fun j => decide (j < m ∧ j ∉ u)) w →
      (∀ i d o, i < m → i ∉ u → l[i]? = some o → o.dst = some d → Ψ i (look a d) w) → wpAny P .any l.toArray (lift N Q) n listed a w := by
    intro n
    induction n with
    | zero =>
      intro u listed a w hu hn hs hl hum hcl ha hsame hext hJ hfacts
      have hu0 : u = [] := List.eq_nil_of_length_eq_zero (by omega)
      subst hu0
      refine any_tail hok 0 m listed a w (by simp at hn; omega) hml (Nat.le_refl _) hs ?_ (htail _ _ _ hsame hext hJ (fun i hi => by simp [hi]) (fun i d o hi => hfacts i d o hi (by simp)) a ha rfl)
      intro i hi
      have := hl i hi
      cases hx : listed.getD i true with
      | false => have := this.1 hx; simp at this; simp; omega
      | true =>
        have h2 : ¬ (m ≤ i) := fun h => by have := this.2 (.inr h); rw [hx] at this; cases this
        simp; omega
    | succ n ih =>
      intro u listed a w hu hn hs hl hum hcl ha hsame hext hJ hfacts
      by_cases hu0 : u = []
      · subst hu0
        refine any_tail hok (n + 1) m listed a w (by simp at hn; omega) hml (Nat.le_refl _) hs ?_ (htail _ _ _ hsame hext hJ (fun i hi => by simp [hi]) (fun i d o hi => hfacts i d o hi (by simp)) a ha rfl)
        intro i hi
        have := hl i hi
        cases hx : listed.getD i true with
        | false => have := this.1 hx; simp at this; simp; omega
        | true =>
          have h2 : ¬ (m ≤ i) := fun h => by have := this.2 (.inr h); rw [hx] at this; cases this
          simp; omega
      · -- an operation that is ready is one of the first m
        have hlisted : ∀ j, j < l.length → listed.getD j true = true → j < m ∧ j ∉ u := by
          intro j hj hx
          have := hl j hj
          refine ⟨?_, fun h => ?_⟩
          · rcases Nat.lt_or_ge j m with h | h
            · exact h
            · have := this.2 (.inr h); rw [hx] at this; cases this
          · have := this.2 (.inl h); rw [hx] at this; cases this
        have hS : ∀ i, i ∈ Region.ready .any l.toArray listed → ∀ o, l[i]? = some o → ∀ e ∈ o.after, Region.binds .any e = true → listed.getD e.on true = true := by
          intro i hi o ho e he hb
          rw [Region.ready, List.mem_filter, Bool.and_eq_true] at hi
          obtain ⟨_, _, hi4⟩ := hi
          simp only [List.getElem?_toArray, ho, Option.map_some, Option.getD_some, Array.all_eq_true_iff_forall_mem] at hi4
          have h1 := hi4 e he
          rw [hb] at h1
          rw [Array.getD_eq_getD_getElem?] at h1 ⊢
          cases hx : listed[e.on]? with
          | none => rfl
          | some b => rw [hx] at h1; simpa using h1
        have hnot : Region.ready .any l.toArray listed ≠ [] := by
          -- the least of those that are left
          intro hnil
          have hex : ∃ i, i ∈ u ∧ ∀ j ∈ u, i ≤ j := by
            clear hl hum hfacts hn hu hlisted hJ
            induction u with
            | nil => exact absurd rfl hu0
            | cons x u ihu =>
              by_cases hu1 : u = []
              · subst hu1; exact ⟨x, by simp, by simp⟩
              · obtain ⟨i, hi, hmin⟩ := ihu hu1
                rcases Nat.le_total x i with h | h
                · exact ⟨x, by simp, fun j hj => by
                    rcases List.mem_cons.1 hj with rfl | hj
                    · exact Nat.le_refl _
                    · exact Nat.le_trans h (hmin j hj)⟩
                · exact ⟨i, by simp [hi], fun j hj => by
                    rcases List.mem_cons.1 hj with rfl | hj
                    · exact h
                    · exact hmin j hj⟩
          obtain ⟨i, hi, hmin⟩ := hex
          have him := hum i hi
          have hil : i < l.length := by omega
          have : i ∈ Region.ready .any l.toArray listed := by
            rw [Region.ready, List.mem_filter]
            refine ⟨by simp [hil], ?_⟩
            have ho : l[i]? = some l[i] := List.getElem?_eq_getElem hil
            rw [Bool.and_eq_true, (hl i hil).2 (.inl hi)]
            refine ⟨rfl, ?_⟩
            simp only [List.getElem?_toArray, ho, Option.map_some, Option.getD_some, Array.all_eq_true_iff_forall_mem]
            intro e he
            by_cases hbe : Region.binds .any e = true
            case neg => simp [hbe]
            have h2 := (hspec i _ ho).1 e he hbe
            have h3 : listed.getD e.on true = true := by
              cases hx : listed.getD e.on true with
              | true => rfl
              | false =>
                rcases (hl e.on (by omega)).1 hx with h | h
                · have := hmin _ h; omega
                · omega
            have h4 : listed[e.on]? = some (listed[e.on]'(by omega)) := Array.getElem?_eq_getElem _
            rw [Array.getD_eq_getD_getElem?, h4] at h3
            simp only [Array.getD_eq_getD_getElem?, h4]
            simp at h3 ⊢
            right; exact h3
          rw [hnil] at this
          cases this
        refine ⟨fun h => absurd h hnot, fun i hi => ?_⟩
        have hi0 := hi
        rw [Region.ready, List.mem_filter, Bool.and_eq_true] at hi0
        obtain ⟨hi1, hi2, _⟩ := hi0
        have hil : i < l.length := by simpa using hi1
        have ho : l[i]? = some l[i] := List.getElem?_eq_getElem hil
        have hun : listed.getD i true = false := by simpa using hi2
        have hiu : i ∈ u := by
          rcases (hl i hil).1 hun with h | h
          · exact h
          · exfalso
            have hclo := clo_closed (l := l) (S := fun j => decide (j < l.length) && listed.getD j true) (by
              intro j oj hoj hSj e he hb
              rw [Bool.and_eq_true] at hSj
              have hjl : j < l.length := (List.getElem?_eq_some_iff.1 hoj).1
              -- a listed operation's edges are listed: kept below
              have hj := hlisted j hjl hSj.2
              have hlt := (hspec j oj hoj).1 e he hb
              rw [Bool.and_eq_true]
              refine ⟨by simp; omega, ?_⟩
              exact hcl j oj hoj hSj.2 e he hb) ho (by
              intro e he hb
              have hlt := (hspec i _ ho).1 e he hb
              rw [Bool.and_eq_true]
              exact ⟨by simp; omega, hS i hi _ ho e he hb⟩)
            obtain ⟨x, hx⟩ : ∃ x, x ∈ u := by
              cases u with
              | nil => exact absurd rfl hu0
              | cons x u => exact ⟨x, by simp⟩
            have hxm := hum x hx
            have := hclo x ((hspec i _ ho).2.2 h x (by omega))
            rw [Bool.and_eq_true] at this
            exact (hlisted x (by omega) this.2).2 hx
        have him := hum i hiu
        obtain ⟨d, hd, hdN, hdn⟩ := (hspec i _ ho).2.1 him
        have hdist : ∀ j oj dj, j < m → j ≠ i → l[j]? = some oj → oj.dst = some dj → dj ≠ d := by
          intro j oj dj hjm hji hoj hdj
          rcases Nat.lt_or_ge j i with h | h
          · rintro rfl
            exact hdn (List.mem_filterMap.2 ⟨oj, by
              have : (l.take i)[j]? = some oj := by rw [List.getElem?_take_of_lt h]; exact hoj
              exact List.mem_of_getElem? this, hdj⟩)
          · obtain ⟨d', hd', _, hdn'⟩ := (hspec j oj hoj).2.1 hjm
            rw [hdj] at hd'
            injection hd' with hd'
            subst hd'
            rintro rfl
            exact hdn' (List.mem_filterMap.2 ⟨l[i], by
              have : (l.take j)[i]? = some l[i] := by rw [List.getElem?_take_of_lt (by omega)]; exact ho
              exact List.mem_of_getElem? this, hd⟩)
        have hdin : (dsts (l.take m)).contains d = true := by
          rw [List.contains_iff_mem]
          exact List.mem_filterMap.2 ⟨l[i], by
            have : (l.take m)[i]? = some l[i] := by rw [List.getElem?_take_of_lt him]; exact ho
            exact List.mem_of_getElem? this, hd⟩
        have hop := hops i _ him ho (look a) w _ hsame hext hJ (by simp [hiu]) (by
          intro j dj oj hj hoj hdj
          rw [List.contains_iff_mem, mem_edges] at hj
          obtain ⟨e, hin, hb, hon⟩ := hj
          have hlt := (hspec i _ ho).1 _ hin hb
          have hx := hS i hi _ ho _ hin hb
          rw [hon] at hx hlt
          have := hlisted j (by omega) hx
          exact ⟨by simp [this.1, this.2], hfacts j dj oj this.1 this.2 hoj hdj⟩)
        unfold wpOp
        rw [show l.toArray[i]? = some l[i] from by simp [hil]]
        refine op_of_R ha rfl hop ?_
        rintro a' w' ha' he hj' ⟨d', v, hd', hlook, hp⟩
        rw [hd] at hd'
        injection hd' with hd'
        subst hd'
        refine ih (u.erase i) _ a' w' (hu.erase i) ?_ (by simpa using hs) ?_ ?_ ?_ ha' ?_ (ht _ _ _ hext he) ?_ ?_
        · rw [List.length_erase_of_mem hiu]
          have : 0 < u.length := List.length_pos_of_mem hiu
          omega
        · intro j hj
          rw [hu.mem_erase_iff]
          by_cases hji : j = i
          · subst hji
            rw [Array.getD_eq_getD_getElem?, Array.getElem?_setIfInBounds_self_of_lt (by omega)]
            simp; omega
          · rw [Array.getD_eq_getD_getElem?, Array.getElem?_setIfInBounds_ne (Ne.symm hji), ← Array.getD_eq_getD_getElem?, hl j hj]
            simp [hji]
        · intro j hj
          exact hum j (List.mem_of_mem_erase hj)
        · intro j oj hoj hj e he' hb
          have hgrow : ∀ x, listed.getD x true = true → (listed.setIfInBounds i true).getD x true = true := by
            intro x hx
            by_cases hxi : x = i
            · subst hxi
              rw [Array.getD_eq_getD_getElem?, Array.getElem?_setIfInBounds_self_of_lt (by omega)]; rfl
            · rw [Array.getD_eq_getD_getElem?, Array.getElem?_setIfInBounds_ne (Ne.symm hxi), ← Array.getD_eq_getD_getElem?]; exact hx
          by_cases hji : j = i
          · subst hji
            rw [ho] at hoj
            injection hoj with hoj
            subst hoj
            exact hgrow _ (hS j hi _ ho e he' hb)
          · rw [Array.getD_eq_getD_getElem?, Array.getElem?_setIfInBounds_ne (Ne.symm hji), ← Array.getD_eq_getD_getElem?] at hj
            exact hgrow _ (hcl j oj hoj hj e he' hb)
        · intro k hk
          rw [hlook]
          have : k ≠ d := by rintro rfl; rw [hdin] at hk; cases hk
          simp only [upd, this, if_false]
          exact hsame k hk
        · have hS' : (fun j => decide (j < m ∧ j ∉ u) || j == i) = fun j => decide (j < m ∧ j ∉ u.erase i) := by
            funext j
            rw [Bool.eq_iff_iff]
            simp only [Bool.or_eq_true, decide_eq_true_eq, beq_iff_eq, hu.mem_erase_iff]
            constructor
            · rintro (⟨h1, h2⟩ | rfl)
              · exact ⟨h1, fun h => h2 h.2⟩
              · exact ⟨him, fun h => h.1 rfl⟩
            · rintro ⟨h1, h2⟩
              by_cases hji : j = i
              · exact .inr hji
              · exact .inl ⟨h1, fun h => h2 ⟨hji, h⟩⟩
          rw [← hS']
          exact hj'
        · intro j dj oj hjm hju hoj hdj
          by_cases hji : j = i
          · subst hji
            rw [ho] at hoj
            injection hoj with hoj
            subst hoj
            rw [hd] at hdj
            injection hdj with hdj
            subst hdj
            rw [hlook]
            simpa [upd] using hp
          · have hne := hdist j oj dj hjm hji hoj hdj
            rw [hlook]
            simp only [upd, hne, if_false]
            exact hmono j hjm _ _ _ (hfacts j dj oj hjm (fun h => hju (by rw [hu.mem_erase_iff]; exact ⟨hji, h⟩)) hoj hdj) he
  have hlen : l.toArray.size = l.length := by simp
  rw [hlen]
  refine key l.length (List.range m) _ a0 _ List.nodup_range (by simp; omega) (by simp) ?_ (by simp) ?_ ha0 (fun k _ => by rw [hl0]) h0 ?_ ?_
  · intro i hi
    simp [Array.getD_eq_getD_getElem?, hi]
    omega
  · intro j o hj hx
    have : j < l.length := (List.getElem?_eq_some_iff.1 hj).1
    simp [Array.getD_eq_getD_getElem?, this] at hx
  · have e : (fun j => decide (j < m ∧ j ∉ List.range m)) = fun _ : Nat => false := by
      funext j
      simp
    rw [e]; exact hJ0
  · intro i d o hi hni
    simp at hni
    omega

end draw

/-! the source: block g of type t; its cells behind the k-th call are σ k -/
def MonoR (g : Nat) (t : TypeId) (p : VP) : Prop := ∀ v w w', p v w → Mut g (some g) t w w' → p v w'
theorem monoR_V {g : Nat} {t : TypeId} (x : Value) : MonoR g t (isV x) := fun _ _ _ h _ => h
theorem monoR_any {g : Nat} {t : TypeId} : MonoR g t any_ := fun _ _ _ _ _ => trivial
theorem monoR_data {g : Nat} {t : TypeId} {α : Type} {B : Nat} {r : RP α} {x : α} (hne : t ∉ r.ts) (hB : B ≤ g) : MonoR g t (isData B r x) := fun _ _ _ h m => RP.wide (m.rel h hne hB) (Nat.le_refl _) m.size
theorem monoR_agg {g : Nat} {t : TypeId} {α : Type} {B : Nat} {r : RP α} {x : α} (hne : t ∉ r.ts) (hB : B ≤ g) : MonoR g t (isAgg_ B r x) := fun _ _ _ ⟨cs, hv, h⟩ m => ⟨cs, hv, RP.wide (m.rel h hne hB) (Nat.le_refl _) m.size⟩
theorem monoR_own {g : Nat} {t : TypeId} {α : Type} {B : Nat} {r : RP α} {t' : TypeId} {lo : Nat} {xs : List α} (hn : t' ≠ t) (hne : t ∉ r.ts) (hB : B ≤ g) : MonoR g t (isOwn B r t' lo xs) := fun _ _ _ h m => m.ownT h hn hne hB
theorem monoR_tup2 {g : Nat} {t : TypeId} {p q : VP} (h : MonoR g t p) (k : MonoR g t q) : MonoR g t (tup2 p q) := fun _ _ _ ⟨a, b, hv, hp, hq⟩ e => ⟨a, b, hv, h _ _ _ hp e, k _ _ _ hq e⟩
theorem monoR_tup3 {g : Nat} {t : TypeId} {p q r : VP} (h : MonoR g t p) (k : MonoR g t q) (l : MonoR g t r) : MonoR g t (tup3 p q r) := fun _ _ _ ⟨a, b, c, hv, hp, hq, hr⟩ e => ⟨a, b, c, hv, h _ _ _ hp e, k _ _ _ hq e, l _ _ _ hr e⟩
def AllMonoR (g : Nat) (t : TypeId) (ps : List VP) : Prop := ∀ i, MonoR g t (ps.getD i any_)
theorem amR_nil {g : Nat} {t : TypeId} : AllMonoR g t [] := fun i => by cases i <;> exact monoR_any
theorem amR_cons {g : Nat} {t : TypeId} {p : VP} {ps : List VP} (h : MonoR g t p) (hs : AllMonoR g t ps) : AllMonoR g t (p :: ps) := fun i => by
  cases i with
  | zero => exact h
  | succ i => exact hs i
/-- with a part that is data -/
def exD (p : VP) (q : Value → VP) : VP := fun v w => ∃ u, p u w ∧ q u v w
theorem mono_exD {p : VP} {q : Value → VP} (hp : Mono p) (hq : ∀ u, Mono (q u)) : Mono (exD p q) := fun v w w' ⟨u, h1, h2⟩ e => ⟨u, hp _ _ _ h1 e, hq u _ _ _ h2 e⟩
theorem monoR_exD {g : Nat} {t : TypeId} {p : VP} {q : Value → VP} (hp : MonoR g t p) (hq : ∀ u, MonoR g t (q u)) : MonoR g t (exD p q) := fun v w w' ⟨u, h1, h2⟩ e => ⟨u, hp _ _ _ h1 e, hq u _ _ _ h2 e⟩
/-- a slice without room, made here -/
def isZero (e : TypeId) (lo : Nat) : VP := fun v w => ∃ g, v = .slice (some ⟨g, 0, none⟩) 0 0 ∧ lo ≤ g ∧ Blk w g e #[]
theorem mono_zero (e : TypeId) (lo : Nat) : Mono (isZero e lo) := fun _ _ _ ⟨g, hv, hl, hb⟩ x => ⟨g, hv, hl, hb.ext x⟩
theorem monoR_zero {g : Nat} {t e : TypeId} {lo : Nat} (h : e ≠ t) : MonoR g t (isZero e lo) := fun _ _ _ ⟨g, hv, hl, hb⟩ m => ⟨g, hv, hl, m.blk hb h⟩
theorem zero_new {w w1 w2 : World} {g : Nat} {e : TypeId} (n : New w1 w2 g e #[]) (h : w.heap.size ≤ w1.heap.size) : isZero e w.heap.size (.slice (some ⟨g, 0, none⟩) 0 0) w2 := ⟨g, rfl, n.geS h, n.blk⟩
theorem own_zero {α : Type} {r : RP α} {e : TypeId} {lo B : Nat} {v : Value} {w : World} (h : isZero e lo v w) : Own r e lo B w v [] := by
  obtain ⟨g, rfl, hl, hb⟩ := h
  exact .inr ⟨g, 0, #[], rfl, hl, hb, Nat.le_refl _, by simp, by simp, by simp⟩
theorem zero_wide {e : TypeId} {lo lo' : Nat} {v : Value} {w : World} (h : isZero e lo v w) (hl : lo' ≤ lo) : isZero e lo' v w := by
  obtain ⟨g, hv, h1, hb⟩ := h
  exact ⟨g, hv, Nat.le_trans hl h1, hb⟩
/-- a block that was made here -/
def isNew (t : TypeId) (lo : Nat) (cs : Array Value) : VP := fun v w => ∃ g, v = .pointer (some ⟨g, 0, none⟩) ∧ lo ≤ g ∧ Blk w g t cs
theorem mono_new (t : TypeId) (lo : Nat) (cs : Array Value) : Mono (isNew t lo cs) := fun _ _ _ ⟨g, hv, hl, hb⟩ x => ⟨g, hv, hl, hb.ext x⟩
theorem monoR_new {g : Nat} {t e : TypeId} {lo : Nat} {cs : Array Value} (h : e ≠ t) : MonoR g t (isNew e lo cs) := fun _ _ _ ⟨g, hv, hl, hb⟩ m => ⟨g, hv, hl, m.blk hb h⟩
theorem ap_lt {g g' lo : Nat} (h : g < lo) (k : lo ≤ g') : Ap (some g) (some g') := fun j h1 h2 => by injection h1 with h1; injection h2 with h2; omega
theorem ap_ltO {v : Value} {g' lo : Nat} (h : ∀ k, v.ownBlock = some k → k < lo) (k : lo ≤ g') : Ap v.ownBlock (some g') := fun j h1 h2 => by have := h j h1; injection h2 with h2; omega
theorem ap_ltV {α : Type} {r : RP α} {e : TypeId} {el : Nat} {g lo : Nat} {v : Value} {w : World} {xs : List α} (h : g < lo) (k : Own r e lo el w v xs) : Ap (some g) v.ownBlock := fun j h1 h2 => by have := (k.lt j h2).1; injection h1 with h1; omega
theorem ap_ltOV {α : Type} {r : RP α} {e : TypeId} {el : Nat} {lo : Nat} {u v : Value} {w : World} {xs : List α} (h : ∀ k, u.ownBlock = some k → k < lo) (k : Own r e lo el w v xs) : Ap u.ownBlock v.ownBlock := fun j h1 h2 => by have := h j h1; have := (k.lt j h2).1; omega
section appz
variable {P : Program} {N : Nat} {Q : Post} {f : Fr} {w : World} {ops : Array Oper} {rest : List Oper} {d : Nat} {ty : TypeId} {pos : String} {af : Array Edge} {gd : Option (Nat × Bool)} {x y : Operand} {v : Value}
variable {α : Type} {r : RP α} {t e : TypeId} {lo hi : Nat}
theorem zero_nil {e : TypeId} {lo : Nat} {w : World} : (Value.slice none 0 0 = .slice none 0 0) ∨ isZero e lo (.slice none 0 0) w := .inl rfl
/-- append onto a slice without room: a new row -/
theorem run_appZ {B : Nat} {ys : List α} {u : Value} {ty : TypeId} (he : ET P t e r.n) (ht : e ∉ r.ts) (hz : v = .slice none 0 0 ∨ isZero e lo v w) (hs : (RP.slice e r).rel B hi w [u] ys) (hlen : ys.length ≤ 4294967296) (hlo : lo ≤ w.heap.size) (hB : B ≤ w.heap.size) :
    ∃ v' w', (Builtin.append_ #[t, t] ty #[v, u]).run P w = .ok v' w' ∧ (RP.slice e r).rel B w'.heap.size w' [v'] ys ∧ Ext w w' ∧ (ys ≠ [] → ∃ g len cap c, v' = .slice (some ⟨g, 0, none⟩) len cap ∧ lo ≤ g ∧ Blk w' g e c) := by
  rcases hz with rfl | ⟨g, rfl, hg, hb⟩
  · obtain ⟨v', w', h1, h2, h3, _⟩ := run_app (lo := w.heap.size) (el := B) (ty := ty) he ht (Own.nil r e w.heap.size B w) hs (by simpa using hlen) (Nat.le_refl _) hB
    refine ⟨v', w', h1, by simpa using h2.rel, h3.below, fun hy => ?_⟩
    rcases h2 with ⟨_, h⟩ | ⟨g, cap, c, hv, hlo', hb, _⟩
    · exact absurd (by simpa using h) hy
    · exact ⟨g, _, cap, c, hv, Nat.le_trans hlo hlo', hb⟩
  · by_cases hy : ys = []
    · subst hy
      have hown : Own r e g B w (.slice (some ⟨g, 0, none⟩) 0 0) [] := own_zero ⟨g, rfl, Nat.le_refl _, hb⟩
      obtain ⟨base, cap, hu, hc1, hc2⟩ := slice_len hs
      subst hu
      refine ⟨.slice (some ⟨g, 0, none⟩) 0 0, w, ?_, slice_nil _ _ _ _ _ (by simp), ext_refl w, fun h => absurd rfl h⟩
      obtain ⟨i, z, hi1, hi2, hi3, hi4, hi5⟩ := he.info
      cases base with
      | none => simp [Builtin.append_, run_underlying he.u, sizeOf, typeInfo, hi1, Builtin.lenOf, Builtin.firstCells, loadCells, loadCellsFrom, storeCells]
      | some a => simp [Builtin.append_, run_underlying he.u, sizeOf, typeInfo, hi1, Builtin.lenOf, Builtin.firstCells, loadCells, loadCellsFrom, storeCells]
    · obtain ⟨i, z, hi1, hi2, hi3, hi4, hi5⟩ := he.info
      obtain ⟨g2, o2, c2, news, rfl, hnl, hncell, hn1, hnel⟩ := rel_news hs hy
      have hpos : 0 < ys.length := List.length_pos_iff.2 hy
      have hbytes : ys.length * i.bytes ≤ 140737488355328 := by
        have := Nat.mul_le_mul hlen hi4
        omega
      have hncap : Builtin.nextslicecap ys.length 0 = ys.length := nextslicecap_zero hpos
      have hr := run_append_grow (P := P) w t ty e i z he.u hi1 hi2 ⟨g, 0, none⟩ 0 0 [] (by simp) (by simp) ⟨g2, o2, none⟩ ys.length c2 news (by rw [hi3]; exact hnl) (fun j u hu => by rw [add_lit]; exact hncell j u hu) (by omega) (by omega)
        (by rw [Nat.zero_add, hncap]; omega)
      simp only [Nat.zero_add] at hr
      refine ⟨_, _, hr, ?_, ?_, fun _ => ⟨w.heap.size, _, _, _, rfl, hlo, heap_alloc_new w.drew _⟩⟩
      · have hcap := grownCap_ge w ys.length 0 e
        have hcm : grownCap w ys.length 0 e ≤ maxLen := grownCap_le_maxLen w ys.length 0 e (by rw [maxLen_eq]; omega)
        refine ⟨_, _, rfl, hcap, hcm, fun _ => ⟨w.heap.size, 0, _, e, _, rfl, by simp, fun _ => rfl, heap_alloc_new w.drew _, fun k zz hz => ?_⟩⟩
        obtain ⟨cs', hr', hj⟩ := hnel k zz hz
        have hext : Ext w (w.drew.alloc (.cells ([].toArray ++ news.toArray ++ Builtin.zeroCells z.cells (grownCap w ys.length 0 e - ys.length)) e)) := ⟨rfl, rfl, rfl, by simp, fun k hk => heap_alloc_old w.drew _ hk⟩
        refine ⟨cs', RP.wide (RP.ext (r.cap hr') hext) (Nat.le_refl _) hext.size, fun j u hu => ?_⟩
        have h1 := hj j u hu
        have hlt := (List.getElem?_eq_some_iff.1 h1).1
        have h2 : news[k * r.n + j] = u := by rw [List.getElem?_eq_getElem hlt] at h1; injection h1
        simp [Array.getElem?_append, hlt, h2]
      · exact ⟨rfl, rfl, rfl, by simp, fun k hk => heap_alloc_old w.drew _ hk⟩
theorem L_appZ {B : Nat} {ys zs : List α} {u : Value} (hk : ok1 ops f N d gd = true) (he : ET P t e r.n) (ht : e ∉ r.ts) (hx : ev f x = v) (hy : ev f y = u) (hz : v = .slice none 0 0 ∨ isZero e lo v w)
    (hs : (RP.slice e r).rel B hi w [u] ys) (happ : app [] ys = some zs) (hlo : lo ≤ w.heap.size) (hB : B ≤ w.heap.size)
    (h : ∀ v' w', (RP.slice e r).rel B w'.heap.size w' [v'] zs → Ext w w' → L P N ops rest Q (upd f d v') w') :
    L P N ops (⟨some d, .call ⟨.builtin .append, #[x, y], #[t, t]⟩, ty, pos, af, gd⟩ :: rest) Q f w := by
  obtain ⟨hlen, rfl⟩ := app_some happ
  obtain ⟨v', w', hr, h1, h2, _⟩ := run_appZ (ty := ty) (lo := lo) he ht hz hs (by simpa using hlen) hlo hB
  exact L_pure hk (by simp [execOp, resolve, invoke, builtin, hx, hy, hr]) (h v' w' (by simpa using h1) h2)
/-- exclusive or; and -/
def xorI (k : IntKind) (m n : Int) : Int := k.wrap (((BitVec.ofInt k.bits m ^^^ BitVec.ofInt k.bits n).toNat : Nat) : Int)
def andI (k : IntKind) (m n : Int) : Int := k.wrap (((BitVec.ofInt k.bits m &&& BitVec.ofInt k.bits n).toNat : Nat) : Int)
theorem L_xor {k : IntKind} {m n : Int} {t u : TypeId} (hk : ok1 ops f N d gd = true) (hx : ev f x = .int k m) (hy : ev f y = .int k n) (h : L P N ops rest Q (upd f d (.int k (xorI k m n))) w) :
    L P N ops (⟨some d, .binOp .xor t x y u, ty, pos, af, gd⟩ :: rest) Q f w :=
  L_pure hk (by simp [execOp, hx, hy, eqGuard, binOp, Op.intBits, xorI]) h
theorem L_and {k : IntKind} {m n : Int} {t u : TypeId} (hk : ok1 ops f N d gd = true) (hx : ev f x = .int k m) (hy : ev f y = .int k n) (h : L P N ops rest Q (upd f d (.int k (andI k m n))) w) :
    L P N ops (⟨some d, .binOp .and t x y u, ty, pos, af, gd⟩ :: rest) Q f w :=
  L_pure hk (by simp [execOp, hx, hy, eqGuard, binOp, Op.intBits, andI]) h
/-- a slice held against nil -/
def isNilS : Value → Bool
  | .slice none _ _ => true
  | _ => false
theorem nil_of {w : World} {xs : List α} (h : (RP.slice e r).rel lo hi w [v] xs) (hn : isNilS v = true) : xs = [] := by
  obtain ⟨base, cap, hv, _, _, hx⟩ := h
  obtain rfl : v = .slice base xs.length cap := by simpa using hv
  cases base with
  | some a => cases hn
  | none =>
    by_cases hne : xs = []
    · exact hne
    · obtain ⟨g, o, c, t', fz, hb, _⟩ := hx hne; cases hb
theorem L_nileq {b c : Nat} {a : Option Addr} {t u : TypeId} (hk : ok1 ops f N d gd = true) (ht : P.underlying t = some (.slice e)) (hx : ev f x = .slice a b c) (hy : ev f y = .slice none 0 0)
    (h : L P N ops rest Q (upd f d (.bool (isNilS (.slice a b c)))) w) : L P N ops (⟨some d, .binOp .eql t x y u, ty, pos, af, gd⟩ :: rest) Q f w :=
  L_pure hk (by cases a <;> simp [execOp, hx, hy, eqGuard, binOp, run_equal_slice_nil _ _ _ _ _ _ ht, isNilS]) h
theorem L_nilne {b c : Nat} {a : Option Addr} {t u : TypeId} (hk : ok1 ops f N d gd = true) (ht : P.underlying t = some (.slice e)) (hx : ev f x = .slice a b c) (hy : ev f y = .slice none 0 0)
    (h : L P N ops rest Q (upd f d (.bool (!isNilS (.slice a b c)))) w) : L P N ops (⟨some d, .binOp .neq t x y u, ty, pos, af, gd⟩ :: rest) Q f w :=
  L_pure hk (by cases a <;> simp [execOp, hx, hy, eqGuard, binOp, run_equal_slice_nil _ _ _ _ _ _ ht, isNilS]) h
end appz
section useR
variable {P : Program} {N : Nat} {Q : Post} {f0 : Fr} {w0 : World}
/-- the goals of the open operations: one that draws is the q-th of rs -/
def OpsR (P : Program) (N : Nat) (l : List Oper) (ps : List VP) (D : List Nat) (g : Nat) (t : TypeId) (σ : Nat → Array Value) (rs : List Nat) (f0 : Fr) (w0 : World) : Nat → List Oper → Prop
  | _, [] => True
  | k, o :: rest => ((∃ q, rs[q]? = some k ∧ (q = 0 ∨ ∃ j, rs[q - 1]? = some j ∧ (edges o).contains j = true) ∧
        ∀ f w, Same D f0 f → Mut g (some g) t w0 w → Blk w g t (σ q) → Pre l ps o f w → L P N l.toArray [o] (opR o f w (ps.getD k any_) (Mut g (some g) t) fun w' => Blk w' g t (σ (q + 1))) f w) ∨
      (rs.contains k = false ∧ ∀ f w, Same D f0 f → Mut g (some g) t w0 w → (∃ cs, Blk w g t cs) → Pre l ps o f w → L P N l.toArray [o] (opP o f w (ps.getD k any_)) f w)) ∧
      OpsR P N l ps D g t σ rs f0 w0 (k + 1) rest
section
variable {l : List Oper} {ps : List VP} {D : List Nat} {g : Nat} {t : TypeId} {σ : Nat → Array Value} {rs : List Nat} {k : Nat} {o : Oper} {rest : List Oper}
theorem opsR_nil : OpsR P N l ps D g t σ rs f0 w0 k [] := trivial
theorem opsR_draw (q : Nat) (hq : rs[q]? = some k) (he : q = 0 ∨ ∃ j, rs[q - 1]? = some j ∧ (edges o).contains j = true)
    (h : ∀ f w, Same D f0 f → Mut g (some g) t w0 w → Blk w g t (σ q) → Pre l ps o f w → L P N l.toArray [o] (opR o f w (ps.getD k any_) (Mut g (some g) t) fun w' => Blk w' g t (σ (q + 1))) f w)
    (hs : OpsR P N l ps D g t σ rs f0 w0 (k + 1) rest) : OpsR P N l ps D g t σ rs f0 w0 k (o :: rest) := ⟨.inl ⟨q, hq, he, h⟩, hs⟩
theorem opsR_cons (hk : rs.contains k = false) (h : ∀ f w, Same D f0 f → Mut g (some g) t w0 w → (∃ cs, Blk w g t cs) → Pre l ps o f w → L P N l.toArray [o] (opP o f w (ps.getD k any_)) f w)
    (hs : OpsR P N l ps D g t σ rs f0 w0 (k + 1) rest) : OpsR P N l ps D g t σ rs f0 w0 k (o :: rest) := ⟨.inr ⟨hk, h⟩, hs⟩
theorem opsR_get : ∀ (u : List Oper) (k : Nat), OpsR P N l ps D g t σ rs f0 w0 k u → ∀ i o, u[i]? = some o → OpsR P N l ps D g t σ rs f0 w0 (k + i) [o] := by
  intro u
  induction u with
  | nil => intro k _ i o ho; simp at ho
  | cons x u ih =>
    intro k hk i o ho
    cases i with
    | zero => simp at ho; subst ho; exact ⟨hk.1, trivial⟩
    | succ i =>
      have := ih (k + 1) hk.2 i o (by simpa using ho)
      rwa [show k + 1 + i = k + (i + 1) from by omega] at this
end
theorem L_of_opR {ops : Array Oper} {o : Oper} {f : Fr} {w : World} {p : VP} {F : World → World → Prop} {J : World → Prop} (h : L P N ops [o] (opR o f w p F J) f w) (hq : ∀ e f' w', opR o f w p F J e f' w' → Q e f' w') : L P N ops [o] Q f w := by
  intro a ha hl
  have := op_of_R (Q' := Q) (K := fun a w => wpList P ops (lift N Q) [] a w) ha hl h (fun a' w' ho hF hJ hx => ⟨ho, hq _ _ _ ⟨rfl, hF, hJ, hx⟩⟩)
  unfold wpList
  exact this
theorem L_of_opP {ops : Array Oper} {o : Oper} {f : Fr} {w : World} {p : VP} (h : L P N ops [o] (opP o f w p) f w) (hq : ∀ e f' w', opP o f w p e f' w' → Q e f' w') : L P N ops [o] Q f w := by
  intro a ha hl
  have := op_of_L (Q' := Q) (K := fun a w => wpList P ops (lift N Q) [] a w) ha hl h (fun a' w' ho hF hx => ⟨ho, hq _ _ _ ⟨rfl, hF, hx⟩⟩)
  unfold wpList
  exact this
/-- a region that draws its order, with calls that draw from the source -/
theorem W_drawR {id : Nat} {l : List Oper} (m : Nat) (ps : List VP) (g : Nat) (t : TypeId) (σ : Nat → Array Value) (rs : List Nat) (hmix : P.follows .mixedOrders = true) (hok : drawOk N l m = true) (hrs : rs.Nodup) (hrm : ∀ j ∈ rs, j < m)
    (hmono : AllMonoR g t ps) (hb : Blk w0 g t (σ 0)) (hops : OpsR P N l ps (dsts (l.take m)) g t σ rs f0 w0 0 (l.take m))
    (htail : ∀ f w, Same (dsts (l.take m)) f0 f → Mut g (some g) t w0 w → Blk w g t (σ rs.length) → Facts l ps m f w → L P N l.toArray (l.drop m) Q f w) : W P N (.region id l.toArray true) Q f0 w0 := by
  have hdrew : Ext w0 { w0 with drawn := w0.drawn + 1 } := ext_drew w0
  refine W_drawG m (fun i => ps.getD i any_) (Mut g (some g) t) (fun S w => ∃ k, k ≤ rs.length ∧ (∀ q j, rs[q]? = some j → (S j = true ↔ q < k)) ∧ Blk w g t (σ k)) hmix hok (fun _ _ _ h k => fr1_trans h k) (fr1_of_ext hb hdrew)
    ⟨0, Nat.zero_le _, fun q j _ => by simp, hb.ext hdrew⟩ (fun i _ => hmono i) ?_ ?_
  · rintro i o hi ho f w S hs hF ⟨k, hk, hS, hB⟩ hSi hp
    have hg := opsR_get _ _ hops i o (by rw [List.getElem?_take_of_lt hi]; exact ho)
    rw [Nat.zero_add] at hg
    have hpre : Pre l ps o f w := fun j d hj hd => by
      cases h : l[j]? with
      | none => rw [h] at hd; cases hd
      | some o' => rw [h] at hd; exact (hp j d o' hj h hd).2
    rcases hg.1 with ⟨q, hq, he, hL⟩ | ⟨hc, hL⟩
    · -- it is the k-th call
      have hqk : q = k := by
        have h1 : ¬ q < k := fun h => by have := (hS q i hq).2 h; rw [hSi] at this; cases this
        rcases he with rfl | ⟨j, hj, hje⟩
        · omega
        · have hin : j < l.length := by
            have := hrm j (List.mem_of_getElem? hj)
            obtain ⟨hml, _⟩ := drawOk_spec hok
            omega
          obtain ⟨d, hd, _⟩ := ((drawOk_spec hok).2 j l[j] (List.getElem?_eq_getElem hin)).2.1 (hrm j (List.mem_of_getElem? hj))
          have := (hp j d l[j] hje (List.getElem?_eq_getElem hin) hd).1
          have := (hS _ j hj).1 this
          omega
      subst hqk
      refine L_of_opR (hL f w hs hF hB hpre) ?_
      rintro e f' w' ⟨h1, h2, h3, h4⟩
      have hql : q < rs.length := (List.getElem?_eq_some_iff.1 hq).1
      refine ⟨h1, h2, ⟨q + 1, hql, fun q' j hj => ?_, h3⟩, h4⟩
      have h5 := hS q' j hj
      have h6 : (j = i ↔ q' = q) := by
        constructor
        · rintro rfl
          have e1 := (List.getElem?_eq_some_iff.1 hq).2
          have e2 := (List.getElem?_eq_some_iff.1 hj).2
          exact (List.getElem_inj hrs).1 (e2.trans e1.symm)
        · rintro rfl
          rw [hq] at hj; injection hj with hj; exact hj.symm
      rw [Bool.or_eq_true, h5, beq_iff_eq, h6]
      omega
    · refine L_of_opP (hL f w hs hF ⟨_, hB⟩ hpre) ?_
      rintro e f' w' ⟨h1, h2, h4⟩
      refine ⟨h1, fr1_of_ext hB h2, ⟨k, hk, fun q' j hj => ?_, hB.ext h2⟩, h4⟩
      have h5 := hS q' j hj
      have h6 : ¬ j = i := by
        rintro rfl
        have := List.mem_of_getElem? hj
        rw [← List.contains_iff_mem, hc] at this
        cases this
      rw [Bool.or_eq_true, h5, beq_iff_eq]
      constructor
      · rintro (h | h)
        · exact h
        · exact absurd h h6
      · exact .inl
  · rintro f w S hs hF ⟨k, hk, hS, hB⟩ hall hp
    have hkl : k = rs.length := by
      rcases Nat.lt_or_ge k rs.length with h | h
      · have h1 : rs[k]? = some rs[k] := List.getElem?_eq_getElem h
        have := (hS k _ h1).1 (hall _ (hrm _ (List.getElem_mem h)))
        omega
      · omega
    subst hkl
    refine htail f w hs hF hB fun i d hi hd => ?_
    cases h : l[i]? with
    | none => rw [h] at hd; cases hd
    | some o' => rw [h] at hd; exact hp i d o' (Nat.le_of_ble_eq_true hi) h hd
end useR
section parts
variable {f : Fr}
theorem parts5 {i0 i1 i2 i3 i4 : Nat} {a0 a1 a2 a3 a4 : Operand} {u0 u1 u2 u3 u4 : Value} (h0 : ev f a0 = u0) (h1 : ev f a1 = u1) (h2 : ev f a2 = u2) (h3 : ev f a3 = u3) (h4 : ev f a4 = u4) :
    (#[(i0, a0), (i1, a1), (i2, a2), (i3, a3), (i4, a4)] : Array (Nat × Operand)).map (fun p => (p.1, ev f p.2)) = #[(i0, u0), (i1, u1), (i2, u2), (i3, u3), (i4, u4)] := by simp [h0, h1, h2, h3, h4]
theorem parts6 {i0 i1 i2 i3 i4 i5 : Nat} {a0 a1 a2 a3 a4 a5 : Operand} {u0 u1 u2 u3 u4 u5 : Value} (h0 : ev f a0 = u0) (h1 : ev f a1 = u1) (h2 : ev f a2 = u2) (h3 : ev f a3 = u3) (h4 : ev f a4 = u4) (h5 : ev f a5 = u5) :
    (#[(i0, a0), (i1, a1), (i2, a2), (i3, a3), (i4, a4), (i5, a5)] : Array (Nat × Operand)).map (fun p => (p.1, ev f p.2)) = #[(i0, u0), (i1, u1), (i2, u2), (i3, u3), (i4, u4), (i5, u5)] := by simp [h0, h1, h2, h3, h4, h5]
theorem parts7 {i0 i1 i2 i3 i4 i5 i6 : Nat} {a0 a1 a2 a3 a4 a5 a6 : Operand} {u0 u1 u2 u3 u4 u5 u6 : Value} (h0 : ev f a0 = u0) (h1 : ev f a1 = u1) (h2 : ev f a2 = u2) (h3 : ev f a3 = u3) (h4 : ev f a4 = u4) (h5 : ev f a5 = u5) (h6 : ev f a6 = u6) :
    (#[(i0, a0), (i1, a1), (i2, a2), (i3, a3), (i4, a4), (i5, a5), (i6, a6)] : Array (Nat × Operand)).map (fun p => (p.1, ev f p.2)) = #[(i0, u0), (i1, u1), (i2, u2), (i3, u3), (i4, u4), (i5, u5), (i6, u6)] := by simp [h0, h1, h2, h3, h4, h5, h6]
theorem parts8 {i0 i1 i2 i3 i4 i5 i6 i7 : Nat} {a0 a1 a2 a3 a4 a5 a6 a7 : Operand} {u0 u1 u2 u3 u4 u5 u6 u7 : Value} (h0 : ev f a0 = u0) (h1 : ev f a1 = u1) (h2 : ev f a2 = u2) (h3 : ev f a3 = u3) (h4 : ev f a4 = u4) (h5 : ev f a5 = u5) (h6 : ev f a6 = u6) (h7 : ev f a7 = u7) :
    (#[(i0, a0), (i1, a1), (i2, a2), (i3, a3), (i4, a4), (i5, a5), (i6, a6), (i7, a7)] : Array (Nat × Operand)).map (fun p => (p.1, ev f p.2)) = #[(i0, u0), (i1, u1), (i2, u2), (i3, u3), (i4, u4), (i5, u5), (i6, u6), (i7, u7)] := by simp [h0, h1, h2, h3, h4, h5, h6, h7]
theorem parts9 {i0 i1 i2 i3 i4 i5 i6 i7 i8 : Nat} {a0 a1 a2 a3 a4 a5 a6 a7 a8 : Operand} {u0 u1 u2 u3 u4 u5 u6 u7 u8 : Value} (h0 : ev f a0 = u0) (h1 : ev f a1 = u1) (h2 : ev f a2 = u2) (h3 : ev f a3 = u3) (h4 : ev f a4 = u4) (h5 : ev f a5 = u5) (h6 : ev f a6 = u6) (h7 : ev f a7 = u7) (h8 : ev f a8 = u8) :
    (#[(i0, a0), (i1, a1), (i2, a2), (i3, a3), (i4, a4), (i5, a5), (i6, a6), (i7, a7), (i8, a8)] : Array (Nat × Operand)).map (fun p => (p.1, ev f p.2)) = #[(i0, u0), (i1, u1), (i2, u2), (i3, u3), (i4, u4), (i5, u5), (i6, u6), (i7, u7), (i8, u8)] := by simp [h0, h1, h2, h3, h4, h5, h6, h7, h8]
theorem parts10 {i0 i1 i2 i3 i4 i5 i6 i7 i8 i9 : Nat} {a0 a1 a2 a3 a4 a5 a6 a7 a8 a9 : Operand} {u0 u1 u2 u3 u4 u5 u6 u7 u8 u9 : Value} (h0 : ev f a0 = u0) (h1 : ev f a1 = u1) (h2 : ev f a2 = u2) (h3 : ev f a3 = u3) (h4 : ev f a4 = u4) (h5 : ev f a5 = u5) (h6 : ev f a6 = u6) (h7 : ev f a7 = u7) (h8 : ev f a8 = u8) (h9 : ev f a9 = u9) :
    (#[(i0, a0), (i1, a1), (i2, a2), (i3, a3), (i4, a4), (i5, a5), (i6, a6), (i7, a7), (i8, a8), (i9, a9)] : Array (Nat × Operand)).map (fun p => (p.1, ev f p.2)) = #[(i0, u0), (i1, u1), (i2, u2), (i3, u3), (i4, u4), (i5, u5), (i6, u6), (i7, u7), (i8, u8), (i9, u9)] := by simp [h0, h1, h2, h3, h4, h5, h6, h7, h8, h9]
theorem parts11 {i0 i1 i2 i3 i4 i5 i6 i7 i8 i9 i10 : Nat} {a0 a1 a2 a3 a4 a5 a6 a7 a8 a9 a10 : Operand} {u0 u1 u2 u3 u4 u5 u6 u7 u8 u9 u10 : Value} (h0 : ev f a0 = u0) (h1 : ev f a1 = u1) (h2 : ev f a2 = u2) (h3 : ev f a3 = u3) (h4 : ev f a4 = u4) (h5 : ev f a5 = u5) (h6 : ev f a6 = u6) (h7 : ev f a7 = u7) (h8 : ev f a8 = u8) (h9 : ev f a9 = u9) (h10 : ev f a10 = u10) :
    (#[(i0, a0), (i1, a1), (i2, a2), (i3, a3), (i4, a4), (i5, a5), (i6, a6), (i7, a7), (i8, a8), (i9, a9), (i10, a10)] : Array (Nat × Operand)).map (fun p => (p.1, ev f p.2)) = #[(i0, u0), (i1, u1), (i2, u2), (i3, u3), (i4, u4), (i5, u5), (i6, u6), (i7, u7), (i8, u8), (i9, u9), (i10, u10)] := by simp [h0, h1, h2, h3, h4, h5, h6, h7, h8, h9, h10]
theorem parts12 {i0 i1 i2 i3 i4 i5 i6 i7 i8 i9 i10 i11 : Nat} {a0 a1 a2 a3 a4 a5 a6 a7 a8 a9 a10 a11 : Operand} {u0 u1 u2 u3 u4 u5 u6 u7 u8 u9 u10 u11 : Value} (h0 : ev f a0 = u0) (h1 : ev f a1 = u1) (h2 : ev f a2 = u2) (h3 : ev f a3 = u3) (h4 : ev f a4 = u4) (h5 : ev f a5 = u5) (h6 : ev f a6 = u6) (h7 : ev f a7 = u7) (h8 : ev f a8 = u8) (h9 : ev f a9 = u9) (h10 : ev f a10 = u10) (h11 : ev f a11 = u11) :
    (#[(i0, a0), (i1, a1), (i2, a2), (i3, a3), (i4, a4), (i5, a5), (i6, a6), (i7, a7), (i8, a8), (i9, a9), (i10, a10), (i11, a11)] : Array (Nat × Operand)).map (fun p => (p.1, ev f p.2)) = #[(i0, u0), (i1, u1), (i2, u2), (i3, u3), (i4, u4), (i5, u5), (i6, u6), (i7, u7), (i8, u8), (i9, u9), (i10, u10), (i11, u11)] := by simp [h0, h1, h2, h3, h4, h5, h6, h7, h8, h9, h10, h11]
theorem parts13 {i0 i1 i2 i3 i4 i5 i6 i7 i8 i9 i10 i11 i12 : Nat} {a0 a1 a2 a3 a4 a5 a6 a7 a8 a9 a10 a11 a12 : Operand} {u0 u1 u2 u3 u4 u5 u6 u7 u8 u9 u10 u11 u12 : Value} (h0 : ev f a0 = u0) (h1 : ev f a1 = u1) (h2 : ev f a2 = u2) (h3 : ev f a3 = u3) (h4 : ev f a4 = u4) (h5 : ev f a5 = u5) (h6 : ev f a6 = u6) (h7 : ev f a7 = u7) (h8 : ev f a8 = u8) (h9 : ev f a9 = u9) (h10 : ev f a10 = u10) (h11 : ev f a11 = u11) (h12 : ev f a12 = u12) :
    (#[(i0, a0), (i1, a1), (i2, a2), (i3, a3), (i4, a4), (i5, a5), (i6, a6), (i7, a7), (i8, a8), (i9, a9), (i10, a10), (i11, a11), (i12, a12)] : Array (Nat × Operand)).map (fun p => (p.1, ev f p.2)) = #[(i0, u0), (i1, u1), (i2, u2), (i3, u3), (i4, u4), (i5, u5), (i6, u6), (i7, u7), (i8, u8), (i9, u9), (i10, u10), (i11, u11), (i12, u12)] := by simp [h0, h1, h2, h3, h4, h5, h6, h7, h8, h9, h10, h11, h12]
end parts
end Go.E
