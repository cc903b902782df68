/- Library functions on strings that are not walked: what they compute; a builder. -/
import Derived.Test.YtohpkefnmkdaeaaGreatDoorG14
import Derived.Lib.Split
import Derived.Lib.SplitLaws
import Derived.Lib.Strings
import Derived.Lib.AtoiAll
import Derived.Lib.ItoaNum
import Derived.Lib.IndexMore
import Derived.Lib.FrozenHead
import Derived.Lib.AtoiAllMem
import Derived.Lib.ConvBytes
import Derived.Sort.Grow
import Derived.Deep.Draws
namespace Go.E
open Go Go.RowKit
set_option linter.unusedVariables false
def strconv_Itoa (n : Int) : Option ByteArray := if -9223372036854775808 ≤ n ∧ n ≤ 9223372036854775807 then some (bs (Go.Lib.itoa n)) else none
theorem strconv_Itoa_some {n : Int} {r : ByteArray} (h : strconv_Itoa n = some r) : -9223372036854775808 ≤ n ∧ n ≤ 9223372036854775807 ∧ r = bs (Go.Lib.itoa n) := by
  unfold strconv_Itoa at h
  split at h
  · rename_i k; cases h; exact ⟨k.1, k.2, rfl⟩
  · cases h
def atoiR (s : ByteArray) : Go.Lib.NumEnd Int → Int × Bool
  | .ok v => (v, false)
  | .range => (Go.Lib.atoiSat s.data.toList, true)
  | _ => (0, true)
def strconv_Atoi (s : ByteArray) : Option (Int × Bool) := if s.size ≤ 281474976710656 then some (atoiR s (Go.Lib.atoiAll s.data.toList)) else none
theorem strconv_Atoi_some {s : ByteArray} {r : Int × Bool} (h : strconv_Atoi s = some r) : s.size ≤ 281474976710656 ∧ r = atoiR s (Go.Lib.atoiAll s.data.toList) := by
  unfold strconv_Atoi at h
  split at h
  · rename_i k; cases h; exact ⟨k, rfl⟩
  · cases h
def strings_Split (s y : ByteArray) : Option (List ByteArray) := if s.size < 4294967281 ∧ 1 ≤ y.size then some (Go.Lib.splitB y 0 (Go.Lib.countB s y) s) else none
theorem strings_Split_some {s y : ByteArray} {r : List ByteArray} (h : strings_Split s y = some r) : s.size < 4294967281 ∧ 1 ≤ y.size ∧ r = Go.Lib.splitB y 0 (Go.Lib.countB s y) s := by
  unfold strings_Split at h
  split at h
  · rename_i k; cases h; exact ⟨k.1, k.2, rfl⟩
  · cases h
def strings_Cut (s y : ByteArray) : Option (ByteArray × ByteArray × Bool) := if s.size < 4294967281 then some (bs (Go.Lib.cut s.data.toList y.data.toList).1, bs (Go.Lib.cut s.data.toList y.data.toList).2.1, (Go.Lib.cut s.data.toList y.data.toList).2.2) else none
theorem strings_Cut_some {s y : ByteArray} {r : ByteArray × ByteArray × Bool} (h : strings_Cut s y = some r) : s.size < 4294967281 ∧ r = (bs (Go.Lib.cut s.data.toList y.data.toList).1, bs (Go.Lib.cut s.data.toList y.data.toList).2.1, (Go.Lib.cut s.data.toList y.data.toList).2.2) := by
  unfold strings_Cut at h
  split at h
  · rename_i k; cases h; exact ⟨k, rfl⟩
  · cases h
def strings_CutPrefix (s y : ByteArray) : Option (ByteArray × Bool) := some (bs (Go.Lib.trimPrefix s.data.toList y.data.toList), Go.Lib.hasPrefix s.data.toList y.data.toList)
def strings_TrimPrefix (s y : ByteArray) : Option ByteArray := some (bs (Go.Lib.trimPrefix s.data.toList y.data.toList))
def ErrIs (v : Value) : Bool → Prop
  | true => ∃ t p, v = .iface t p
  | false => v = .nilIface
section
variable {P : Program} {N : Nat} {Q : Post} {f : Fr} {w w' : World} {H : FH} {As Bs : List Ass} {ops : Array Oper} {rest : List Oper} {d : Nat} {ty : TypeId} {pos : String} {af : Array Edge} {gd : Option (Nat × Bool)} {x y : Operand} {v : Value}
theorem L_ene {t u : TypeId} {b : Bool} {ms : Array (String × TypeId)} (hk : ok1 ops f N d gd = true) (hu : P.underlying t = some (.interface ms)) (hx : ev f x = v) (_ : Value.nilIface = Value.nilIface) (he : ErrIs v b) (h : L P N ops rest Q (upd f d (.bool b)) w) :
    L P N ops (⟨some d, .binOp .neq t x (.const .nilIface) u, ty, pos, af, gd⟩ :: rest) Q f w := by
  refine L_pure hk ?_ h
  have hy : ev f (.const .nilIface) = .nilIface := rfl
  have e1 : ∀ (t' : TypeId) (p : Value) (n : Nat), (Op.equalIn (n + 1) t (.iface t' p) .nilIface).run P w = .ok false w := fun t' p n => by simp [Op.equalIn, run_underlying hu]
  have e2 : ∀ n : Nat, (Op.equalIn (n + 1) t .nilIface .nilIface).run P w = .ok true w := fun n => by simp [Op.equalIn, run_underlying hu]
  cases b with
  | true =>
    obtain ⟨t', p, rfl⟩ := he
    have e3 : (Op.equalIn 10000 t (.iface t' p) .nilIface).run P w = .ok false w := e1 _ _ 9999
    simp [execOp, hx, hy, binOp, Op.equal, Op.maxDepth, eqGuard_at_iface, eqGuard_nil_constR, Sem.run_pure, e3]
  | false =>
    have he : v = .nilIface := he
    subst he
    have e3 : (Op.equalIn 10000 t .nilIface .nilIface).run P w = .ok true w := e2 9999
    simp [execOp, hx, hy, binOp, Op.equal, Op.maxDepth, eqGuard_at_iface, eqGuard_nil_constR, Sem.run_pure, e3]
theorem Star.ext (hst : Star H w As) (hb : Below w.heap.size w w') : Star H w' As := by
  obtain ⟨hs, F, h1, hn, hm⟩ := hst
  refine ⟨⟨hs.1.trans (hb.mono (Nat.zero_le _)), fun b o h => ?_⟩, F, SepL.loc h1 fun b hb' => hb.block b (SepL.lt h1 b hb'), hn, hm⟩
  have h2 := hs.2 b o h
  rw [hb.block b (Array.getElem?_eq_some_iff.1 h2).1, h2]
theorem grown_drew (w : World) (k : Nat) (os : Array Obj) : Below w.heap.size w (Go.Sort.grow (w.drewN k) os) :=
  ⟨rfl, rfl, rfl, by show _ ≤ (w.heap ++ os).size; rw [Array.size_append]; omega, fun i hi => by show (w.heap ++ os)[i]? = _; rw [Array.getElem?_append_left hi]⟩
theorem below_drewN (w : World) (k : Nat) : Below w.heap.size w (w.drewN k) := ⟨rfl, rfl, rfl, Nat.le_refl _, fun _ _ => rfl⟩
theorem below_bytesWorld (w : World) (e : TypeId) (s : ByteArray) : Below w.heap.size w (Go.Lib.bytesWorld w e s) :=
  ⟨rfl, rfl, rfl, by rw [Go.Lib.bytesWorld_size]; omega, fun k hk => Go.Lib.bytesWorld_at_old w e s k hk⟩
theorem split_star {e : TypeId} {s y : ByteArray} (hst : Star H w []) (hs : s.size < 4294967281) (hy : 1 ≤ y.size) :
    Star H (w.alloc (.cells ((Go.Lib.splitB y 0 (Go.Lib.countB s y) s).map Value.string).toArray e)) [own (OR.ownS e (OR.frz RP.str)) [.slice (some ⟨w.heap.size, 0, none⟩) (Go.Lib.countB s y + 1) (Go.Lib.countB s y + 1)] (Go.Lib.splitB y 0 (Go.Lib.countB s y) s)] := by
  have h := hst.alloc (t := e) (cs := ((Go.Lib.splitB y 0 (Go.Lib.countB s y) s).map Value.string).toArray)
  have hlen := Go.Lib.splitB_all y hy 0 _ s rfl
  have hle := Go.Lib.countB_le y hy s.size s (Nat.le_refl _)
  obtain ⟨h1, F, ⟨F1, F2, rfl, ⟨rfl, hb⟩, rfl⟩, hn, hm⟩ := h
  refine ⟨h1, [w.heap.size] ++ [], ⟨_, _, rfl, ?_, rfl⟩, hn, hm⟩
  refine .inr ⟨w.heap.size, Go.Lib.countB s y + 1, _, List.replicate (Go.Lib.countB s y + 1) [], by rw [hlen], hb, by omega, by unfold maxLen; omega, ?_, by simp, by simp [hlen], fun i x G hi hG => ?_⟩
  · show _ = _ * 1
    simp [hlen]
  · rw [List.getElem?_replicate] at hG
    split at hG
    · cases hG
      refine ⟨[.string x], ⟨rfl, rfl⟩, fun j v hj => ?_⟩
      cases j with
      | zero =>
        simp at hj
        subst hj
        show _ = _
        simp [show (OR.frz RP.str).r.n = 1 from rfl, hi]
      | succ j => simp at hj
    · cases hG
def bld (T e : TypeId) (B g : Nat) (s : ByteArray) : Ass where
  p H w F := B ≤ g ∧ ∃ p v : Value, (p = .pointer none ∨ p = .pointer (some ⟨g, 0, none⟩)) ∧ w.heap[g]? = some (.cells #[p, v] T (0, 0)) ∧
    w.ownsRowF B e 1 v (Go.Lib.byteCells s.data.toList).length (Go.Lib.byteCells s.data.toList) ∧ v.ownBlock ≠ some g ∧ F = g :: v.ownBlock.toList
  fz _ := True
  mono h _ := h
  loc := by
    rintro H w w' F ⟨h0, p, v, hp, hg, hr, hne, rfl⟩ hl
    refine ⟨h0, p, v, hp, (hl g (by simp)).trans hg, ⟨hr.1, ?_⟩, hne, rfl⟩
    rcases hr.2 with h | ⟨k, cap, cur, fz, rfl, h1, h2, h3⟩
    · exact .inl h
    · exact .inr ⟨k, cap, cur, fz, rfl, h1, (hl k (by simp [Value.ownBlock])).trans h2, h3⟩
  lt := by
    rintro H w F ⟨h0, p, v, hp, hg, hr, hne, rfl⟩ b hb
    rcases List.mem_cons.1 hb with rfl | hb
    · exact (Array.getElem?_eq_some_iff.1 hg).1
    · rcases hr.2 with ⟨rfl, _⟩ | ⟨k, cap, cur, fz, rfl, h1, h2, h3⟩
      · simp [Value.ownBlock] at hb
      · simp [Value.ownBlock] at hb
        subst hb
        exact (Array.getElem?_eq_some_iff.1 h2).1
  fzl _ _ _ := trivial
variable {T e : TypeId} {B g : Nat} {s s' : ByteArray}
theorem bld_is (hst : Star H w (bld T e B g s :: As)) : Go.Lib.IsBuilderF T e B g (Go.Lib.byteCells s.data.toList) w ∧ B ≤ w.heap.size := by
  obtain ⟨F, h0, p, v, hp, hg, hr, hne, rfl⟩ := hst.one
  have := (Array.getElem?_eq_some_iff.1 hg).1
  refine ⟨?_, by omega⟩
  rcases hp with rfl | rfl
  · exact .inl ⟨h0, v, hg, hr, hne⟩
  · exact .inr ⟨h0, v, hg, hr, hne⟩
theorem bld_star (hB : ∀ k, B ≤ k → H.m k = none) (hst : Star H w [bld T e B g s]) (h2 : Below B w w') (h1 : Go.Lib.IsBuilderF T e B g (Go.Lib.byteCells s'.data.toList) w') : Star H w' [bld T e B g s'] := by
  have hs : Sub H w' := ⟨hst.sub.1.trans (h2.mono (Nat.zero_le _)), fun b o h => by
    have hb : b < B := by
      rcases Nat.lt_or_ge b B with h' | h'
      · exact h'
      · rw [hB b h'] at h; cases h
    rw [h2.block b hb]; exact hst.sub.2 b o h⟩
  obtain ⟨p, hp, h0, v, hg, hr, hne⟩ : ∃ p, (p = .pointer none ∨ p = .pointer (some ⟨g, 0, none⟩)) ∧ Go.Lib.BuilderAtF T e B g p (Go.Lib.byteCells s'.data.toList) w' := by
    rcases h1 with h | h
    · exact ⟨_, .inl rfl, h⟩
    · exact ⟨_, .inr rfl, h⟩
  have hv : ∀ b ∈ v.ownBlock.toList, B ≤ b := by
    intro b hb
    rcases hr.2 with ⟨rfl, _⟩ | ⟨k, cap, cur, fz, rfl, k1, k2, k3⟩
    · simp [Value.ownBlock] at hb
    · simp [Value.ownBlock] at hb
      omega
  refine ⟨hs, (g :: v.ownBlock.toList) ++ [], ⟨_, [], rfl, ⟨h0, p, v, hp, hg, hr, hne, rfl⟩, rfl⟩, ?_, ?_⟩
  · rw [List.append_nil]
    refine List.nodup_cons.2 ⟨fun h => hne ?_, ?_⟩
    · cases ho : v.ownBlock with
      | none => rw [ho] at h; simp at h
      | some k => rw [ho] at h; simp at h; rw [h]
    · cases v.ownBlock <;> simp
  · intro b hb
    rw [List.append_nil] at hb
    rcases List.mem_cons.1 hb with rfl | hb
    · exact hB _ h0
    · exact hB _ (hv b hb)
def catB (s s' : ByteArray) : Option ByteArray := if s.size + s'.size ≤ 140737488355328 then some (s ++ s') else none
theorem bld_cat {r : ByteArray} (h : catB s s' = some r) : s.size + s'.size ≤ 140737488355328 ∧ r = s ++ s' := by
  unfold catB at h
  split at h
  · rename_i k; cases h; exact ⟨k, rfl⟩
  · cases h
theorem bld_app (h : Go.Lib.BuilderAtF T e B g (.pointer (some ⟨g, 0, none⟩)) (Go.Lib.byteCells s.data.toList ++ Go.Lib.strCells s') w) :
    Go.Lib.BuilderAtF T e B g (.pointer (some ⟨g, 0, none⟩)) (Go.Lib.byteCells (s ++ s').data.toList) w := by
  have e1 : Go.Lib.byteCells (s ++ s').data.toList = Go.Lib.byteCells s.data.toList ++ Go.Lib.strCells s' := by
    rw [Go.Lib.strCells_eq, ← Go.Lib.byteCells_append]
    simp
  rw [e1]
  exact h
theorem L_alB {z : Value} {t eb : TypeId} (hk : ok1 ops f N d gd = true) (hz : ∀ w, (zeroValue t).run P w = .ok z w) (hc : z.cells = #[.pointer none, .slice none 0 0]) (hst : Star H w As)
    (h : ∀ g B w', (∀ k, B ≤ k → H.m k = none) → Star H w' (bld t eb B g ByteArray.empty :: As) → L P N ops rest Q (upd f d (.pointer (some ⟨g, 0, none⟩))) w') : L P N ops (⟨some d, .alloc t, ty, pos, af, gd⟩ :: rest) Q f w := by
  refine L_pure hk (w' := w.alloc (.cells #[.pointer none, .slice none 0 0] t)) (v := .pointer (some ⟨w.heap.size, 0, none⟩)) (by simp [execOp, Instr.alloc, hz, newVar, newRow, hc]) (h _ w.heap.size _ (fun k hk => hst.sub.lt hk) ?_)
  refine (hst.alloc (t := t) (cs := #[.pointer none, .slice none 0 0])).conv (B := [_]) fun F hF => ?_
  obtain ⟨rfl, hb⟩ := hF
  exact ⟨[w.heap.size], ⟨[w.heap.size], [], rfl, ⟨Nat.le_refl _, .pointer none, .slice none 0 0, .inl rfl, hb, ⟨rfl, .inl ⟨rfl, rfl⟩⟩, by simp [Value.ownBlock], rfl⟩, rfl⟩, .refl _⟩
end
end Go.E
