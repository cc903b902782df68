/- Short forms of the rules, for texts of many steps. -/
import Derived.Test.YteeilbddjlpiaaaG10
namespace Go.E
open Go Go.RowKit
set_option linter.unusedVariables false
abbrev I (n : Int) : Value := .int .i64 n
abbrev Bo (b : Bool) : Value := .bool b
abbrev Pt (g : Nat) : Value := .pointer (some ⟨g, 0, none⟩)
abbrev Pq (g o : Nat) : Value := .pointer (some ⟨g, o, none⟩)
abbrev S0 : Value := .slice none 0 0
abbrev Sl (g n m : Nat) : Value := .slice (some ⟨g, 0, none⟩) n m
abbrev oF {α : Type} (t : Nat) (r : RP α) (v : Value) (xs : List α) : Ass := own (OR.ownS t (OR.frz r)) [v] xs
abbrev rS {α : Type} (t : Nat) (r : RP α) : RP (List α) := RP.slice t r
theorem exR (p : Fr → World → Prop) : ∃ R, R = p := ⟨_, rfl⟩
theorem exI (p : Nat → Fr → World → Prop) : ∃ R, R = p := ⟨_, rfl⟩
theorem rj {R p : Fr → World → Prop} {f : Fr} {w : World} (h : R = p) (hp : p f w) : R f w := by rw [h]; exact hp
theorem rk {R p : Fr → World → Prop} {f : Fr} {w : World} (h : R = p) (hp : R f w) : p f w := by rw [h] at hp; exact hp
theorem ij {R p : Nat → Fr → World → Prop} {n : Nat} {f : Fr} {w : World} (h : R = p) (hp : p n f w) : R n f w := by rw [h]; exact hp
theorem ik {R p : Nat → Fr → World → Prop} {n : Nat} {f : Fr} {w : World} (h : R = p) (hp : R n f w) : p n f w := by rw [h] at hp; exact hp
theorem cb {g : Nat} {t : TypeId} {cs : Array Value} {As : List Ass} (k : ∀ B ∈ As, Ass.closed B) : ∀ B ∈ box g t cs :: As, Ass.closed B := closedL_cons (closed_box _ _ _) k
theorem c0 : ∀ A ∈ ([] : List Ass), A.closed := closedL_nil
theorem co {α : Type} {R : OR α} {e : TypeId} {cs : List Value} {x : List α} {As : List Ass} (h : R.closed) (k : ∀ B ∈ As, Ass.closed B) : ∀ B ∈ own (OR.ownS e R) cs x :: As, Ass.closed B := closedL_cons (closed_own (OR.closed_ownS h) _ _) k
section star
variable {H : FH} {w : World} {As Bs : List Ass}
def gets : List Nat → List Ass → Option (List Ass)
  | [], As => some As
  | i :: is, As => match pick i As with
    | some (A, Bs) => gets is (A :: Bs)
    | none => none
theorem Star.gets : ∀ (is : List Nat) {As : List Ass} (h : Star H w As) (e : Go.E.gets is As = some Bs), Star H w Bs
  | [], As, h, e => by cases e; exact h
  | i :: is, As, h, e => by
    unfold Go.E.gets at e
    split at e
    · rename_i A Cs hp; exact Star.gets is (h.get i hp) e
    · cases e
theorem litInts {e : TypeId} {g : Nat} {cs : Array Value} {As : List Ass} (xs : List Int) (n : Nat) (h : Star H w (box g e cs :: As)) (hc : cs.toList = xs.map I) (hn : xs.length = n) (hm : n ≤ maxLen) : Star H w (oF e RP.int (Sl g n n) xs :: As) := by
  have key : ∀ (ys : List Int) {Cs : List Ass}, Star H w Cs → Star H w (ownL (OR.frz RP.int) (ys.map fun y => ([I y], y)) ++ Cs) := by
    intro ys
    induction ys with
    | nil => intro Cs h; exact h
    | cons y ys ih => intro Cs h; exact Star.addF (r := RP.int) (cs := [I y]) (x := y) (ih h) rfl
  refine Star.mkRow (R := OR.frz RP.int) (xs.map fun y => ([I y], y)) xs n (key xs h) ?_ ?_ hn hm
  · rw [hc]
    clear hc hn h key
    induction xs with
    | nil => rfl
    | cons x xs ih => simpa using ih
  · simp [Function.comp_def]
end star
section rules
variable {P : Program} {N : Nat} {Q : Post} {f : Fr} {w : World} {ops : Array Oper} {rest : List Oper} {d : Nat} {ty : TypeId} {pos : String} {af : Array Edge} {gd : Option (Nat × Bool)}
theorem sq {id : Nat} {l : List Oper} {y : Code} (h : L P N l.toArray l (seqP P N y Q) f w) : W P N (.seq (.region id l.toArray false) y) Q f w := W_seq (W_region h)
theorem ns {id : Nat} {l : List Oper} {y : Code} (h : L P N l.toArray l (seqP P N y Q) f w) : L P N ops [] (seqP P N (.seq (.region id l.toArray false) y) Q) f w := L_nil (W_seq (W_region h))
theorem nq {x y : Code} (h : W P N x (seqP P N y Q) f w) : L P N ops [] (seqP P N (.seq x y) Q) f w := L_nil (W_seq h)
theorem nn (h : Q .normal f w) : L P N ops [] Q f w := L_nil h
variable {x y : Operand} {v : Value}
theorem mI {n : Int} (e : (ok1 ops f N d gd, ev f x) = (true, I n)) (h : L P N ops rest Q (upd f d (I n)) w) : L P N ops (⟨some d, .move x, ty, pos, af, gd⟩ :: rest) Q f w := L_mv (congrArg Prod.fst e) (congrArg Prod.snd e) h
theorem mB {n : Bool} (e : (ok1 ops f N d gd, ev f x) = (true, Bo n)) (h : L P N ops rest Q (upd f d (Bo n)) w) : L P N ops (⟨some d, .move x, ty, pos, af, gd⟩ :: rest) Q f w := L_mv (congrArg Prod.fst e) (congrArg Prod.snd e) h
theorem mV (v : Value) (e : (ok1 ops f N d gd, ev f x) = (true, v)) (h : L P N ops rest Q (upd f d v) w) : L P N ops (⟨some d, .move x, ty, pos, af, gd⟩ :: rest) Q f w := L_mv (congrArg Prod.fst e) (congrArg Prod.snd e) h
theorem mF (hx : ev f x = v) (e : ok1 ops f N d gd = true) (h : L P N ops rest Q (upd f d v) w) : L P N ops (⟨some d, .move x, ty, pos, af, gd⟩ :: rest) Q f w := L_mv e hx h
theorem aI {n : Int} (e : (ok1 ops f N d gd, ev f x) = (true, I n)) (h : L P N ops rest Q (upd f d (I n)) w) : L P N ops (⟨some d, .assign x, ty, pos, af, gd⟩ :: rest) Q f w := L_as (congrArg Prod.fst e) (congrArg Prod.snd e) h
theorem aB {n : Bool} (e : (ok1 ops f N d gd, ev f x) = (true, Bo n)) (h : L P N ops rest Q (upd f d (Bo n)) w) : L P N ops (⟨some d, .assign x, ty, pos, af, gd⟩ :: rest) Q f w := L_as (congrArg Prod.fst e) (congrArg Prod.snd e) h
theorem aV (v : Value) (e : (ok1 ops f N d gd, ev f x) = (true, v)) (h : L P N ops rest Q (upd f d v) w) : L P N ops (⟨some d, .assign x, ty, pos, af, gd⟩ :: rest) Q f w := L_as (congrArg Prod.fst e) (congrArg Prod.snd e) h
theorem aF (hx : ev f x = v) (e : ok1 ops f N d gd = true) (h : L P N ops rest Q (upd f d v) w) : L P N ops (⟨some d, .assign x, ty, pos, af, gd⟩ :: rest) Q f w := L_as e hx h
theorem ldB {H : FH} {As Bs : List Ass} {cs : Array Value} {t tb : TypeId} {g o : Nat} (i : Nat) (hst : Star H w As) (hag : ∀ w, (isAgg t).run P w = .ok false w) (hx : ev f x = Pq g o) (hp : (ok1 ops f N d gd, pick i As) = (true, some (box g tb cs, Bs))) (hc : cs[o]? = some v)
    (h : L P N ops rest Q (upd f d v) w) : L P N ops (⟨some d, .load t x, ty, pos, af, gd⟩ :: rest) Q f w :=
  L_ld (congrArg Prod.fst hp) hag hx ((Star.blkAt i hst (congrArg Prod.snd hp)).cell hc) h
theorem fA {t : TypeId} {j off g o : Nat} (o' : Nat) (hf : FA P t j off) (hx : ev f x = Pq g o) (e : (ok1 ops f N d gd, o + off) = (true, o'))
    (h : L P N ops rest Q (upd f d (Pq g o')) w) : L P N ops (⟨some d, .fieldAddr t x j, ty, pos, af, gd⟩ :: rest) Q f w := L_fa (congrArg Prod.fst e) hf hx (congrArg Prod.snd e) h
theorem ps {op : Op} (hk : (!ok0 ops f gd && Nat.blt d N) = true) (h : L P N ops rest Q (upd f d undef) w) : L P N ops (⟨some d, op, ty, pos, af, gd⟩ :: rest) Q f w := L_pass hk h
theorem gN {d j dj : Nat} {want b e : Bool} (hf : f dj = .bool e) (he : e = b) (hj : ((ops[j]?).bind (·.dst), b == want, Nat.blt d N) = (some dj, false, true)) : (!ok0 ops f (some (j, want)) && Nat.blt d N) = true :=
  g_no (congrArg Prod.fst hj) (hf.trans (congrArg Value.bool he)) (congrArg (·.2.1) hj) (congrArg (·.2.2) hj)
variable {l : List Oper} {pp : List PF} {D : List Nat} {H0 : FH} {f0 : Fr} {base : List Ass} {E : List Ent} {k : Nat} {ios : List (List Nat × List Nat)} {op : Op}
theorem nO {o : Oper} {H : FH} {p : PF} {St : FH → World → Fr → Prop} {d : Nat} {v : Value} (ho : o.dst = some d) (hp : p v H) (h : St H w (upd f d v)) : L P N ops [] (opS o f H p St) (upd f d v) w :=
  L_nil ⟨rfl, v, H, by rw [ho]; rfl, Le.refl _, fun d' hd => hp, h⟩
theorem oP (hg : ∀ f H, PreF l pp ⟨some d, op, ty, pos, af, gd⟩ f H → (!ok0 l.toArray f gd && Nat.blt d N) = true) (hp : ∀ H, pp.getD k anyF undef H)
    (r : OpsS P N l pp D H0 f0 base E (k + 1) rest ios) : OpsS P N l pp D H0 f0 base E k (⟨some d, op, ty, pos, af, gd⟩ :: rest) (([], []) :: ios) :=
  opsS_cons (fun f w H X hS hE hP hst => L_pass (hg f H hP) (L_nil ⟨rfl, undef, H, rfl, Le.refl _, fun d' hd => hp H, hst⟩)) r
end rules
end Go.E
