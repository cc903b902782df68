/- The row's closed facts that read the program's head line, without a walk over the whole line. -/
import Derived.Test.YteeilbddjlpiaaaG9
import Derived.JoinedOf
namespace Go.E
open Go
theorem words_cons : ∀ (a b : List Char), a.all (fun c => c != Char.ofNat 32) = true → wordsSigns (a ++ Char.ofNat 32 :: b) = a :: wordsSigns b
  | [], b, _ => rfl
  | c :: a, b, h => by
    rw [List.all_cons, Bool.and_eq_true] at h
    have hc : c ≠ Char.ofNat 32 := by simpa using h.1
    have ih := words_cons a b h.2
    rw [List.cons_append, wordsSigns.eq_3 _ _ (fun e => hc e), ih]
theorem strip_none (w : List Char) (ws : List (List Char)) : ∀ os : List String, os.all (fun o => !(w == o.toList)) = true → stripLifts os (w :: ws) = ([], w :: ws)
  | [], _ => rfl
  | o :: os, h => by
    rw [List.all_cons, Bool.and_eq_true] at h
    have h1 : (w == o.toList) = false := by simpa using h.1
    rw [stripLifts, if_neg (by rw [h1]; simp), strip_none w ws os h.2]
def HeadIs (P : Program) (S : List Char) (rest : List Char) : Prop :=
  P.initOrder.toList = "harness".toList ++ Char.ofNat 32 :: (S ++ Char.ofNat 32 :: ("cut".toList ++ Char.ofNat 32 :: rest))
section
variable {P : Program} {S rest : List Char}
theorem HeadIs.behind (h : HeadIs P S rest) (hS : isSumSigns S = true) (hS2 : S.all (fun c => c != Char.ofNat 32) = true) : behindMainWord (wordsSigns P.initOrder.toList) = "cut".toList :: wordsSigns rest := by
  unfold HeadIs at h
  rw [h, words_cons _ _ (by decide +kernel), words_cons _ _ hS2, words_cons _ _ (by decide +kernel)]
  show (if _ then _ else _) = _
  rw [if_pos]
  rw [hS]; decide +kernel
theorem HeadIs.make (h : HeadIs P S rest) (hS : isSumSigns S = true) (hS2 : S.all (fun c => c != Char.ofNat 32) = true) : P.make = some .cut := by
  unfold Program.make
  rw [h.behind hS hS2]
  show (if _ then _ else if _ then _ else _) = _
  rw [if_neg (by decide +kernel), if_pos]
  rw [show ("cut".toList == "cut".toList) = true from by decide +kernel]; rfl
theorem HeadIs.strip (ws : List (List Char)) : stripLifts liftWords ("cut".toList :: ws) = ([], "cut".toList :: ws) := strip_none _ _ _ (by decide +kernel)
theorem HeadIs.headLifts (h : HeadIs P S rest) (hS : isSumSigns S = true) (hS2 : S.all (fun c => c != Char.ofNat 32) = true) : P.headLifts = [] := by
  unfold Program.headLifts
  rw [h.behind hS hS2, HeadIs.strip]
  show (if _ then _ else _) = _
  split <;> rfl
theorem HeadIs.lifts (h : HeadIs P S rest) (hS : isSumSigns S = true) (hS2 : S.all (fun c => c != Char.ofNat 32) = true) : P.liftsFinal = false := by
  unfold Program.liftsFinal
  rw [h.behind hS hS2, h.headLifts hS hS2]
  simp
theorem HeadIs.enter (h : HeadIs P S rest) (hS : isSumSigns S = true) (hS2 : S.all (fun c => c != Char.ofNat 32) = true) (h1 : P.laysLater = false) (h2 : P.bearsReflect = false) (h3 : P.doorFits [] = true) : P.mayEnter = true := by
  unfold Program.mayEnter
  rw [h.behind hS hS2]
  show ((_ || _) || _) = true
  rw [HeadIs.strip]
  rw [Bool.or_eq_true]
  right
  simp [h1, h2, h3]
end
end Go.E
