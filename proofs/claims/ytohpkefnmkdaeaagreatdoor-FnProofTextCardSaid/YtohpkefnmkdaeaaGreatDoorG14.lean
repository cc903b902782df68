/- Strings: bytes, pieces, bytes as text. -/
import Derived.Test.YtohpkefnmkdaeaaGreatDoorG12
import Derived.Laws.Strings3
import Derived.Laws.BytesString
import Derived.Laws.Cells
namespace Go.E
open Go Go.RowKit
set_option linter.unusedVariables false
def bs (l : List UInt8) : ByteArray := ⟨l.toArray⟩
theorem bs_data (s : ByteArray) : bs s.data.toList = s := by cases s; simp [bs]
def cat (s t : ByteArray) : Option ByteArray := if s.size + t.size ≤ 9223372036854775807 then some (s ++ t) else none
theorem cat_some {s t r : ByteArray} (h : cat s t = some r) : s.size + t.size ≤ 9223372036854775807 ∧ r = s ++ t := by
  unfold cat at h
  split at h
  · rename_i k; cases h; exact ⟨k, rfl⟩
  · cases h
def sidx (s : ByteArray) (k : Int) : Option UInt8 := idx s.data.toList k
def ssl (s : ByteArray) (a b : Int) : Option ByteArray := if 0 ≤ a ∧ a ≤ b ∧ b ≤ (s.size : Int) then some (s.extract a.toNat b.toNat) else none
theorem ssl_some {s t : ByteArray} {a b : Int} (h : ssl s a b = some t) : 0 ≤ a ∧ a ≤ b ∧ b ≤ (s.size : Int) ∧ t = s.extract a.toNat b.toNat := by
  unfold ssl at h
  split at h
  · rename_i k; cases h; exact ⟨k.1, k.2.1, k.2.2, rfl⟩
  · cases h
def u8w (n : Int) : UInt8 := UInt8.ofNat (IntKind.u8.wrap n).toNat
theorem u8w_eq (n : Int) : ((u8w n).toNat : Int) = IntKind.u8.wrap n := by
  have h : 0 ≤ IntKind.u8.wrap n ∧ IntKind.u8.wrap n < 256 := by
    unfold IntKind.wrap IntKind.bits IntKind.signed
    simp
    omega
  unfold u8w
  rw [UInt8.toNat_ofNat']
  omega
section
variable {P : Program} {N : Nat} {Q : Post} {f : Fr} {w : World} {H : FH} {As Bs : List Ass} {ops : Array Oper} {rest : List Oper} {d : Nat} {ty : TypeId} {pos : String} {af : Array Edge} {gd : Option (Nat × Bool)} {x y : Operand} {v : Value}
theorem L_sidx {s : ByteArray} {b : UInt8} {t : TypeId} {k : Int} (hk : ok1 ops f N d gd = true) (hu : P.underlying t = some .string) (hx : ev f x = .string s) (hy : ev f y = .int .i64 k) (hi : sidx s k = some b)
    (h : L P N ops rest Q (upd f d (.int .u8 (b.toNat : Int))) w) : L P N ops (⟨some d, .index t x y, ty, pos, af, gd⟩ :: rest) Q f w := by
  obtain ⟨h0, hz, hlt⟩ := idx_some hi
  have hlt2 : k.toNat < s.size := by
    have h2 : k.toNat < s.data.toList.length := hlt
    rw [Array.length_toList] at h2
    exact h2
  have hlt' : k < (s.size : Int) := by omega
  have he : s[k.toNat]'hlt2 = b := by
    rw [← (List.getElem?_eq_some_iff.1 hz).2, Array.getElem_toList]
    rfl
  refine L_pure hk ?_ h
  simp [execOp, hx, hy, Instr.index, asIntOf, run_underlying hu, h0, hlt', he]
theorem L_ssl {s r : ByteArray} {t : TypeId} {a b : Int} {low high : Option Operand} (hk : ok1 ops f N d gd = true) (hu : P.underlying t = some .string) (hx : ev f x = .string s)
    (hl : match low with | none => a = 0 | some o => ev f o = .int .i64 a) (hh : match high with | none => b = (s.size : Int) | some o => ev f o = .int .i64 b) (hs : ssl s a b = some r)
    (h : L P N ops rest Q (upd f d (.string r)) w) : L P N ops (⟨some d, .slice t x low high none, ty, pos, af, gd⟩ :: rest) Q f w := by
  obtain ⟨h0, hab, hbl, rfl⟩ := ssl_some hs
  have hb0 : 0 ≤ b := by omega
  have ha : a ≤ (s.size : Int) := by omega
  refine L_pure hk ?_ h
  cases low with
  | none =>
    have hl : a = 0 := hl
    subst hl
    cases high with
    | none =>
      have hh : b = s.size := hh
      subst hh
      simp [execOp, hx, Instr.sliceAt, Instr.slice, run_underlying hu, Instr.sliceBounds]
    | some oh =>
      simp [execOp, hx, hh, Instr.sliceAt, Instr.slice, run_underlying hu, Instr.sliceBounds, Instr.sliceBound, asIntOf, hb0, hbl]
  | some ol =>
    cases high with
    | none =>
      have hh : b = s.size := hh
      subst hh
      simp [execOp, hx, hl, Instr.sliceAt, Instr.slice, run_underlying hu, Instr.sliceBounds, Instr.sliceBound, asIntOf, h0, ha]
    | some oh =>
      simp [execOp, hx, hl, hh, Instr.sliceAt, Instr.slice, run_underlying hu, Instr.sliceBounds, Instr.sliceBound, asIntOf, h0, hb0, hbl]
      omega
theorem L_cv8 {k' : IntKind} {n : Int} {s t : TypeId} (hk : ok1 ops f N d gd = true) (hx : ev f x = .int k' n) (hs : ∃ k, P.underlying s = some (.int k)) (ht : P.underlying t = some (.int .u8))
    (h : L P N ops rest Q (upd f d (.int .u8 ((u8w n).toNat : Int))) w) : L P N ops (⟨some d, .convert s t x, ty, pos, af, gd⟩ :: rest) Q f w := by
  rw [u8w_eq] at h
  exact L_cv hk hx hs ht h
theorem bytes_fold : ∀ (l : List UInt8) (s : ByteArray), (l.map fun b => ((b.toNat : Nat) : Int)).foldl (fun r n => r.push (UInt8.ofNat n.toNat)) s = ⟨s.data ++ l.toArray⟩
  | [], s => by cases s; simp
  | b :: l, s => by
    rw [List.map_cons, List.foldl_cons, bytes_fold l]
    cases s
    simp [ByteArray.push]
theorem L_cvs {e s t : TypeId} {xs : List UInt8} (i : Nat) (hk : ok1 ops f N d gd = true) (hs : P.underlying s = some (.slice e)) (he : P.underlying e = some (.int .u8)) (ht : P.underlying t = some .string) (hx : ev f x = v)
    (hst : Star H w As) (hp : Go.E.pick i As = some (own (OR.ownS e (OR.frz RP.u8)) [v] xs, Bs)) (hne : xs ≠ [])
    (h : L P N ops rest Q (upd f d (.string (bs xs))) w) : L P N ops (⟨some d, .convert s t x, ty, pos, af, gd⟩ :: rest) Q f w := by
  obtain ⟨F, hF⟩ := (hst.get i hp).one
  rcases hF with ⟨_, h0, _⟩ | ⟨g, cap, c, Fs, hv, hb, g1, g2, g3, _, he1, he2⟩
  · exact absurd h0 hne
  have hv : v = .slice (some ⟨g, 0, none⟩) xs.length cap := by simpa using hv
  subst hv
  have hcell : ∀ j u, (xs.map fun b => Value.int .u8 (b.toNat : Int))[j]? = some u → w.cell? ((⟨g, 0, none⟩ : Addr).add j) = some u := by
    intro j u hj
    rw [List.getElem?_map] at hj
    cases hxj : xs[j]? with
    | none => rw [hxj] at hj; cases hj
    | some b =>
      rw [hxj] at hj
      obtain rfl : _ = u := Option.some.inj hj
      have hlt := (List.getElem?_eq_some_iff.1 hxj).1
      obtain ⟨cs, ⟨_, hr⟩, hcs⟩ := he2 j b _ hxj (List.getElem?_eq_getElem (by omega))
      have hr : cs = [.int .u8 (b.toNat : Int)] := hr
      subst hr
      have h0 := hcs 0 _ rfl
      have h0 : c[j]? = some (.int .u8 (b.toNat : Int)) := by simpa [show (OR.frz RP.u8).r.n = 1 from rfl] using h0
      rw [add_lit, Nat.zero_add]
      unfold Blk at hb
      simp [World.cell?, hb, h0]
  have hload := run_loadCells_list (P := P) (w := w) ⟨g, 0, none⟩ _ hcell
  rw [List.length_map] at hload
  have e2 : (xs.map fun b => Value.int .u8 (b.toNat : Int)) = (xs.map fun b => ((b.toNat : Nat) : Int)).map (Value.int .u8) := by rw [List.map_map]; rfl
  rw [e2] at hload
  have hc := (run_convert_bytes_string (P := P) w s t e (some ⟨g, 0, none⟩) xs.length cap hs he ht).trans (run_bytesToString w ⟨g, 0, none⟩ xs.length cap _ hload)
  rw [bytes_fold] at hc
  refine L_pure hk ?_ h
  have e3 : (⟨ByteArray.empty.data ++ xs.toArray⟩ : ByteArray) = bs xs := by
    simp [bs, ByteArray.empty, ByteArray.emptyWithCapacity]
    rfl
  rw [e3] at hc
  simp [execOp, hx, hc]
end
end Go.E
