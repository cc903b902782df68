/- The row's closed facts that read the program's head line, without a walk over the whole line. -/
import Derived.Test.YtbjllamkfmejlaaGreatG9
import Derived.JoinedOf
namespace Go.E
open Go
theorem oU:∀(a b:List Char),a.all (fun c=>c != Char.ofNat 32)=true→wordsSigns (a++Char.ofNat 32 :: b)=a :: wordsSigns b
 | [],b,_=>rfl
 | c :: a,b,h=>by
  rw [List.all_cons,Bool.and_eq_true] at h
  have hc:c ≠ Char.ofNat 32:=by simpa using h.1
  have ih:=oU a b h.2
  rw [List.cons_append,wordsSigns.eq_3 _ _ (fun e=>hc e),ih]
theorem vI (w:List Char) (ws:List (List Char)):∀os:List String,os.all (fun o=>!(w == o.toList))=true→stripLifts os (w :: ws)=([],w :: ws)
 | [],_=>rfl
 | o :: os,h=>by
  rw [List.all_cons,Bool.and_eq_true] at h
  have h1:(w == o.toList)=false:=by simpa using h.1
  rw [stripLifts,if_neg (by rw [h1]; simp),vI w ws os h.2]
def jV (P:Program) (S:List Char) (rest:List Char):Prop:=
 P.initOrder.toList = "harness".toList ++ Char.ofNat 32 :: (S ++ Char.ofNat 32 :: ("cut".toList ++ Char.ofNat 32 :: rest))
section
variable {P:Program} {S rest:List Char}
theorem jV.behind (h : jV P S rest) (hS : isSumSigns S = true) (hS2 : S.all (fun c => c != Char.ofNat 32) = true) : behindMainWord (wordsSigns P.initOrder.toList) = "cut".toList :: wordsSigns rest := by
 unfold jV at h
 rw [h,oU _ _ (by decide +kernel),oU _ _ hS2,oU _ _ (by decide +kernel)]
 show (if _ then _ else _)=_
 rw [if_pos]
 rw [hS]; decide +kernel
theorem jV.make (h:jV P S rest) (hS:isSumSigns S=true) (hS2:S.all (fun c=>c != Char.ofNat 32)=true):P.make=some .cut:=by
 unfold Program.make
 rw [h.behind hS hS2]
 show (if _ then _ else if _ then _ else _)=_
 rw [if_neg (by decide +kernel),if_pos]
 rw [show ("cut".toList == "cut".toList) = true from by decide +kernel]; rfl
theorem jV.strip (ws : List (List Char)) : stripLifts liftWords ("cut".toList :: ws) = ([], "cut".toList :: ws) := vI _ _ _ (by decide +kernel)
theorem jV.headLifts (h:jV P S rest) (hS:isSumSigns S=true) (hS2:S.all (fun c=>c != Char.ofNat 32)=true):P.headLifts=[]:=by
 unfold Program.headLifts
 rw [h.behind hS hS2,jV.strip]
 show (if _ then _ else _)=_
 split <;> rfl
theorem jV.Fw (h:jV P S rest) (hS:isSumSigns S=true) (hS2:S.all (fun c=>c != Char.ofNat 32)=true):P.liftsFinal=false:=by
 unfold Program.liftsFinal
 rw [h.behind hS hS2,h.headLifts hS hS2]
 simp
theorem jV.enter (h:jV P S rest) (hS:isSumSigns S=true) (hS2:S.all (fun c=>c != Char.ofNat 32)=true) (h1:P.laysLater=false) (h2:P.bearsReflect=false) (h3:P.doorFits []=true):P.mayEnter=true:=by
 unfold Program.mayEnter
 rw [h.behind hS hS2]
 show ((_ || _) || _)=true
 rw [jV.strip]
 rw [Bool.or_eq_true]
 right
 simp [h1,h2,h3]
end
end Go.E
