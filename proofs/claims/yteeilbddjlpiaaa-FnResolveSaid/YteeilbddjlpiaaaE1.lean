/- The stepping rules of a walk, over a frame that is read as a function from slots to values. -/
import Derived.WalkKit
import Derived.Orders
namespace Go.E
open Go Go.RowKit
abbrev Fr := Nat → Value
def look (a : Act) : Fr := fun k => a.tmps.getD k undef
structure Okay (N : Nat) (a : Act) : Prop where
  d : a.defers = []
  s : a.tmps.size = N
def upd (f : Fr) (d : Nat) (v : Value) : Fr := fun k => if k = d then v else f k
abbrev Post := Exit → Fr → World → Prop
def lift (N : Nat) (Q : Post) : Exit → Act → World → Prop := fun e a w => Okay N a ∧ Q e (look a) w
def W (P : Program) (N : Nat) (c : Code) (Q : Post) (f : Fr) (w : World) : Prop :=
  ∀ a, Okay N a → look a = f → c.wp P (lift N Q) a w
def ev (f : Fr) : Operand → Value
  | .tmp t => f t
  | .const v => v
  | .global g => .pointer (some ⟨g, 0, none⟩)
  | .func fn => .func (.func fn) #[] #[]
theorem eval_look (a : Act) : a.eval = ev (look a) := by
  funext x; cases x <;> rfl
theorem look_put {a : Act} {N d : Nat} {v : Value} (h : a.tmps.size = N) (hd : d < N) : look (a.put (some d) v) = upd (look a) d v := by
  funext k
  simp only [look, upd, Act.put]
  by_cases hk : k = d
  · subst hk; simp [Array.getD, h, hd]
  · simp [Array.getD, hk]
    by_cases hkn : k < a.tmps.size
    · simp [hkn, Array.getElem_setIfInBounds_ne, Ne.symm hk]
    · simp [hkn]
theorem look_put_none {a : Act} {v : Value} : look (a.put none v) = look a := rfl
theorem okay_put {a : Act} {N : Nat} {d : Option Tmp} {v : Value} (h : Okay N a) : Okay N (a.put d v) := by
  cases d with
  | none => exact h
  | some d => exact ⟨h.d, by simpa [Act.put] using h.s⟩
section code
variable {P : Program} {N : Nat} {Q : Post} {f : Fr} {w : World}
theorem W_mono {c : Code} {R : Post} (h : W P N c R f w) (hq : ∀ e f w, R e f w → Q e f w) : W P N c Q f w :=
  fun a hN hl => wp_mono (h a hN hl) fun _ _ _ ⟨h1, h2⟩ => ⟨h1, hq _ _ _ h2⟩
theorem W_skip (h : Q .normal f w) : W P N .skip Q f w := fun _ hN hl => wp_skip ⟨hN, hl ▸ h⟩
theorem W_exit {id : Nat} (h : Q (.exit id) f w) : W P N (.exit id) Q f w := fun _ hN hl => wp_exit ⟨hN, hl ▸ h⟩
theorem W_ret (h : Q .ret f w) : W P N .ret Q f w := fun _ hN hl => wp_ret ⟨hN, hl ▸ h⟩
def seqP (P : Program) (N : Nat) (y : Code) (Q : Post) : Post
  | .normal, f, w => W P N y Q f w
  | e, f, w => Q e f w
theorem W_seq {x y : Code} (h : W P N x (seqP P N y Q) f w) : W P N (.seq x y) Q f w := by
  intro a hN hl
  refine wp_seq (wp_mono (h a hN hl) ?_)
  rintro e a' w' ⟨h1, h2⟩
  cases e with
  | normal => exact h2 a' h1 rfl
  | _ => exact ⟨h1, h2⟩
theorem W_cond {c : Operand} {x y : Code} {b : Bool} (hc : ev f c = .bool b) (ht : b = true → W P N x Q f w) (hf : b = false → W P N y Q f w) :
    W P N (.cond c x y) Q f w := by
  intro a hN hl
  have hc' : a.eval c = .bool b := by rw [eval_look, hl]; exact hc
  cases b with
  | true => exact wp_cond_true hc' (ht rfl a hN hl)
  | false => exact wp_cond_false hc' (hf rfl a hN hl)
def blockP (id : Nat) (Q : Post) : Post
  | .exit id', f, w => if id' = id then Q .normal f w else Q (.exit id') f w
  | e, f, w => Q e f w
theorem W_block {id : Nat} {c : Code} (h : W P N c (blockP id Q) f w) : W P N (.block id c) Q f w := by
  intro a hN hl
  refine wp_block (wp_mono (h a hN hl) ?_)
  rintro e a' w' ⟨h1, h2⟩
  cases e with
  | exit id' =>
    simp only [blockP] at h2
    simp only [Exit.inBlock]
    split
    · rename_i h; rw [if_pos h] at h2; exact ⟨h1, h2⟩
    · rename_i h; rw [if_neg h] at h2; exact ⟨h1, h2⟩
  | _ => exact ⟨h1, h2⟩
theorem W_loop {c : Code} (I : Nat → Fr → World → Prop) {n : Nat} (h0 : I n f w)
    (round : ∀ n f w, I n f w → W P N c (fun e f' w' => match e with | .normal => ∃ m, m < n ∧ I m f' w' | e => Q e f' w') f w) : W P N (.loop c) Q f w := by
  intro a hN hl
  have key : ∀ n, ∀ (b : Frame) (k : List Item) (cs : List Frame) a w, Okay N a → I n (look a) w →
      ∃ e a' w', lift N Q e a' w' ∧ Arrives P (lone (b.at a (.code c :: .inLoop c :: k)) cs w) b k cs e a' w' := by
    intro n
    induction n using Nat.strongRecOn with
    | _ n ih =>
      intro b k cs a w hN hI
      obtain ⟨e, a₁, w₁, ⟨hN1, hq⟩, harr⟩ := round n (look a) w hI a hN rfl b (.inLoop c :: k) cs
      cases e with
      | normal =>
        obtain ⟨m, hm, hI₁⟩ := hq
        obtain ⟨e₂, a₂, w₂, hq₂, harr₂⟩ := ih m hm b k cs a₁ w₁ hN1 hI₁
        exact ⟨e₂, a₂, w₂, hq₂, .of_steps (Steps.trans harr (.one step_inLoop)) harr₂⟩
      | exit id => exact ⟨_, a₁, w₁, ⟨hN1, hq⟩, .pass (x := .inLoop c) rfl (fun _ _ => .inl (by simp)) harr⟩
      | goto l => exact ⟨_, a₁, w₁, ⟨hN1, hq⟩, .pass (x := .inLoop c) rfl (fun _ _ => .inl (by simp)) harr⟩
      | ret => exact ⟨_, a₁, w₁, ⟨hN1, hq⟩, .pass (x := .inLoop c) rfl (fun _ _ => .inl (by simp)) harr⟩
      | panic ch => exact ⟨_, a₁, w₁, ⟨hN1, hq⟩, .pass (x := .inLoop c) rfl (fun _ _ => .inl (by simp)) harr⟩
      | outgrown => exact ⟨_, a₁, w₁, ⟨hN1, hq⟩, .pass (x := .inLoop c) rfl (fun _ _ => .inl (by simp)) harr⟩
  intro b k cs
  obtain ⟨e, a', w', hq, harr⟩ := key n b k cs a w hN (hl ▸ h0)
  exact ⟨e, a', w', hq, .of_steps (.one step_loop) harr⟩
def yieldedF (ops : Array Oper) (f : Fr) (j : Nat) : Option Bool :=
  match (ops[j]?).bind (·.dst) with
  | some d => match f d with
    | .bool b => some b
    | _ => none
  | none => none
def L (P : Program) (N : Nat) (ops : Array Oper) (l : List Oper) (Q : Post) (f : Fr) (w : World) : Prop :=
  ∀ a, Okay N a → look a = f → wpList P ops (lift N Q) l a w
theorem yielded_look {ops : Array Oper} {a : Act} : yielded ops a.tmps = yieldedF ops (look a) := by
  funext j
  simp only [yielded, yieldedF, look]
  cases h : (ops[j]?).bind (·.dst) with
  | none => rfl
  | some d =>
    simp only [Option.bind_some]
    by_cases hd : d < a.tmps.size
    · have e : a.tmps.getD d undef = a.tmps[d] := by simp [Array.getD, hd]
      rw [Array.getElem?_eq_getElem hd, e]
      cases a.tmps[d] <;> rfl
    · simp only [Array.getElem?_eq_none (Nat.le_of_not_lt hd), Array.getD, hd, dite_false]
      simp [undef]
theorem W_region {id : Nat} {l : List Oper} (h : L P N l.toArray l Q f w) : W P N (.region id l.toArray false) Q f w :=
  fun a hN hl => wp_region_lit (h a hN hl)
variable {ops : Array Oper} {rest : List Oper} {o : Oper}
theorem L_nil (h : Q .normal f w) : L P N ops [] Q f w := fun _ hN hl => ⟨hN, hl ▸ h⟩
theorem L_val {d : Nat} {v : Value} {w' : World} (hw : Region.wanted o (yieldedF ops f) = true) (hd : o.dst = some d) (hN : d < N)
    (hr : (execOp (ev f) o).run P w = .ok (.value v) w') (h : L P N ops rest Q (upd f d v) w') : L P N ops (o :: rest) Q f w := by
  intro a ha hl
  refine wpList_step fun K hK => ?_
  rw [yielded_look, hl, if_pos hw]
  unfold Oper.wp
  rw [eval_look, hl, hr, Oper.upon_value, hd]
  exact hK _ _ (h _ (okay_put ha) (by rw [look_put ha.s hN, hl]))
theorem L_eff {w' : World} (hw : Region.wanted o (yieldedF ops f) = true) (hd : o.dst = none)
    (hr : (execOp (ev f) o).run P w = .ok .skip w') (h : L P N ops rest Q f w') : L P N ops (o :: rest) Q f w := by
  intro a ha hl
  refine wpList_step fun K hK => ?_
  rw [yielded_look, hl, if_pos hw]
  unfold Oper.wp
  rw [eval_look, hl, hr, Oper.upon_skip, hd]
  exact hK _ _ (h _ (okay_put ha) (by rw [look_put_none, hl]))
theorem L_not {d : Nat} (hw : Region.wanted o (yieldedF ops f) = false) (hd : o.dst = some d) (hN : d < N)
    (h : L P N ops rest Q (upd f d undef) w) : L P N ops (o :: rest) Q f w := by
  intro a ha hl
  refine wpList_step fun K hK => ?_
  rw [yielded_look, hl, hw, hd]
  simp only [Bool.false_eq_true, if_false]
  exact hK _ _ (h _ (okay_put ha) (by rw [look_put ha.s hN, hl]))
def C (P : Program) (fn : FuncId) (args : Array Value) (w : World) (R : Value → World → Prop) : Prop :=
  Calls P fn args w fun e w' => ∃ v, e = .returned v ∧ R v w'
theorem C.mono {fn : FuncId} {args : Array Value} {R R' : Value → World → Prop} (h : C P fn args w R) (hr : ∀ v w', R v w' → R' v w') : C P fn args w R' :=
  Calls.mono h fun _ _ ⟨v, he, hv⟩ => ⟨v, he, hr _ _ hv⟩
theorem L_enter {d : Nat} {fn : FuncId} {args : Array Value} {R : Value → World → Prop} (hw : Region.wanted o (yieldedF ops f) = true) (hd : o.dst = some d) (hN : d < N)
    (hr : (execOp (ev f) o).run P w = .ok (.enter fn args) w) (hc : C P fn args w R)
    (h : ∀ v w', R v w' → L P N ops rest Q (upd f d v) w') : L P N ops (o :: rest) Q f w := by
  intro a ha hl
  refine wpList_step fun K hK => ?_
  rw [yielded_look, hl, if_pos hw]
  unfold Oper.wp
  rw [eval_look, hl, hr, Oper.upon_enter, hd]
  refine Calls.mono hc ?_
  rintro _ w' ⟨v, rfl, hv⟩
  exact hK _ _ (h v w' hv _ (okay_put ha) (by rw [look_put ha.s hN, hl]))
theorem L_split {d : Nat} {b : Bool} {l : List Oper} (hd : f d = .bool b) (ht : b = true → L P N ops l Q (upd f d (.bool true)) w)
    (hf : b = false → L P N ops l Q (upd f d (.bool false)) w) : L P N ops l Q f w := by
  cases b with
  | true =>
    have := ht rfl
    rwa [show upd f d (.bool true) = f from by funext k; simp only [upd]; split <;> simp_all] at this
  | false =>
    have := hf rfl
    rwa [show upd f d (.bool false) = f from by funext k; simp only [upd]; split <;> simp_all] at this
def argF (args : Array Value) : Fr := fun k => args.getD k undef
structure RetP (P : Program) (fn : Func) (R : Value → World → Prop) (f : Fr) (w : World) : Prop where
  out : ∀ a, look a = f → ∃ v, (results fn a.tmps).run P w = .ok v w ∧ R v w
def retP (P : Program) (fn : Func) (R : Value → World → Prop) : Post := fun e f w =>
  match e with
  | .normal | .ret => RetP P fn R f w
  | _ => False
theorem C_enter {f : FuncId} {fn : Func} {c : Code} {args : Array Value} {R : Value → World → Prop} (hf : P.funcs[f]? = some fn) (hb : fn.body = some c)
    (hN : fn.ntmps = N) (hle' : Nat.ble args.size N = true) (h : W P N c (retP P fn R) (argF args) w) : C P f args w R := by
  have hle := Nat.le_of_ble_eq_true hle'
  refine calls_of_wp hf hb ?_
  have hs : (args ++ Array.replicate (fn.ntmps - args.size) undef).size = N := by simp [hN]; omega
  have hl : look { tmps := args ++ Array.replicate (fn.ntmps - args.size) undef, defers := [] } = argF args := by
    funext k
    simp only [look, argF, Array.getD]
    by_cases h1 : k < args.size
    · have h2 : k < (args ++ Array.replicate (fn.ntmps - args.size) undef).size := by omega
      rw [dif_pos h2, dif_pos h1]
      exact Array.getElem_append_left h1
    · by_cases h2 : k < (args ++ Array.replicate (fn.ntmps - args.size) undef).size
      · rw [dif_pos h2, dif_neg h1]
        simp [Array.getElem_append_right (Nat.le_of_not_lt h1)]
      · rw [dif_neg h2, dif_neg h1]
  refine wp_mono (h _ ⟨rfl, hs⟩ hl) ?_
  rintro e a' w' ⟨ho, hq⟩
  cases e with
  | normal => obtain ⟨v, hr, hv⟩ := hq.out a' rfl; exact ⟨ho.d, v, hr, v, rfl, hv⟩
  | ret => obtain ⟨v, hr, hv⟩ := hq.out a' rfl; exact ⟨ho.d, v, hr, v, rfl, hv⟩
  | _ => exact hq.elim
theorem ret0 {fn : Func} {R : Value → World → Prop} (h : fn.results = #[]) (hR : R (.tuple #[]) w) : RetP P fn R f w :=
  ⟨fun _ _ => ⟨_, results_none h _ _ _, hR⟩⟩
end code
end Go.E
