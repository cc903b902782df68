/- Compact of an own row of numbers: the shelf's contract, for own rows. -/
import Derived.Test.YteeilbddjlpiaaaG12
import Derived.Shelf.Slices.CompactI
import Derived.Lib.RowBridge
namespace Go.E
open Go Go.Proofs
set_option linter.unusedVariables false
variable {H : FH} {w : World} {As : List Ass} {e : TypeId} {xs : List Int} {g len cap : Nat}
theorem own_cell (hst : Star H w (own (OR.ownS e (OR.frz RP.int)) [.slice (some ⟨g, 0, none⟩) len cap] xs :: As)) {i : Nat} (hi : i < xs.length) (z : Int) :
    Star H (w.setCell ⟨g, i, none⟩ (.int .i64 z)) (own (OR.ownS e (OR.frz RP.int)) [.slice (some ⟨g, 0, none⟩) len cap] (xs.set i z) :: As) := by
  have hst := Star.addF (r := RP.int) (cs := [.int .i64 z]) (x := z) hst rfl
  obtain ⟨c, hb, hfit⟩ := own_fit hst.tail hi
  obtain ⟨F0, hF0⟩ := hst.one
  have hn : (OR.frz RP.int).r.n = 1 := rfl
  rw [hn] at hfit
  refine star_set (C := [own (OR.frz RP.int) [.int .i64 z] z]) hst hi hb putB_setCell (blk_setCell hb) (by simp) (us := [.int .i64 z]) (fun j u' hj => ?_) (fun j hj => ?_) ?_
  · cases j with
    | zero =>
      simp at hj; subst hj; rw [hn]
      have : i * 1 < c.size := by omega
      rw [Nat.add_zero, Nat.mul_one] at *
      rw [Array.getElem?_setIfInBounds_self_of_lt this]
    | succ j => simp at hj
  · rw [Array.getElem?_setIfInBounds_ne (by rw [hn] at hj; omega)]
  · rintro F Gk cs x ⟨F1, F2, rfl, hr1, hF2⟩ hxk hr2 hj hnd hg1 hgk
    have hF2 : F2 = [] := hF2
    subst hF2
    rw [List.append_nil] at hnd hg1
    exact ⟨F1, (OR.frz RP.int).loc hr1 fun b hb => putB_setCell.2 b ((OR.frz RP.int).lt hr1 b hb) fun hx => hg1 (hx ▸ hb), (List.nodup_append.1 hnd).1, fun b hb => .inl (by simpa using hb)⟩
theorem flat_nil : ∀ {Fs : List (List Nat)}, (∀ G ∈ Fs, G = []) → List.flatten Fs = []
  | [], _ => rfl
  | G :: Fs, h => by rw [List.flatten_cons, h G (by simp), flat_nil fun G hG => h G (by simp [hG])]; rfl
theorem own_shrink (hst : Star H w (own (OR.ownS e (OR.frz RP.int)) [.slice (some ⟨g, 0, none⟩) len cap] xs :: As)) {k : Nat} (hk : k ≤ xs.length) :
    Star H w (own (OR.ownS e (OR.frz RP.int)) [.slice (some ⟨g, 0, none⟩) k cap] (xs.take k) :: As) := by
  obtain ⟨hs, F, ⟨F1, F2, rfl, h1, h2⟩, hn, hm⟩ := hst
  refine ⟨hs, F1 ++ F2, ⟨F1, F2, rfl, ?_, h2⟩, hn, hm⟩
  rcases h1 with ⟨hv, _⟩ | ⟨g', cap', c, Fs, hv, hb, g1, g2, g3, rfl, he1, he2⟩
  · simp at hv
  simp at hv
  obtain ⟨rfl, rfl, rfl⟩ := hv
  have hnil : ∀ G ∈ Fs, G = [] := by
    intro G hG
    obtain ⟨i, hi⟩ := List.getElem?_of_mem hG
    have hl := (List.getElem?_eq_some_iff.1 hi).1
    obtain ⟨cs, hr, _⟩ := he2 i xs[i] G (List.getElem?_eq_getElem (by omega)) hi
    exact hr.1
  refine .inr ⟨g, cap, c, Fs.take k, by rw [List.length_take, Nat.min_eq_left hk], hb, by rw [List.length_take]; omega, g2, g3, ?_, by rw [List.length_take, List.length_take, he1], fun i x G hi hG => ?_⟩
  · rw [flat_nil hnil, flat_nil fun G hG => hnil G (List.mem_of_mem_take hG)]
  · rw [List.getElem?_take] at hi hG
    split at hi
    · rw [if_pos ‹_›] at hG
      exact he2 i x G hi hG
    · cases hi
theorem own_holds (hst : Star H w (own (OR.ownS e (OR.frz RP.int)) [.slice (some ⟨g, 0, none⟩) len cap] xs :: As)) : Go.Sort.Holds (Value.int .i64) w g 0 xs.toArray := by
  obtain ⟨F, hF⟩ := hst.one
  rcases hF with ⟨hv, _⟩ | ⟨g', cap', c, Fs, hv, hb, g1, g2, g3, rfl, he1, he2⟩
  · simp at hv
  simp at hv
  obtain ⟨rfl, rfl, rfl⟩ := hv
  intro j hj
  have hj : j < xs.length := by simpa using hj
  obtain ⟨G, hG⟩ : ∃ G, Fs[j]? = some G := ⟨_, List.getElem?_eq_getElem (by omega)⟩
  obtain ⟨cs, ⟨_, hr⟩, hcs⟩ := he2 j xs[j] G (List.getElem?_eq_getElem hj) hG
  have hr : cs = [.int .i64 xs[j]] := hr
  subst hr
  have h0 := hcs 0 _ rfl
  have h0 : c[j]? = some (.int .i64 xs[j]) := by simpa [show (OR.frz RP.int).r.n = 1 from rfl] using h0
  unfold Blk at hb
  have e2 : (xs.toArray)[j]! = xs[j] := by simp [hj]
  constructor
  · simp only [World.cell?, hb, Nat.zero_add, h0, e2]; rfl
  · simp [World.frozen?, hb]
theorem own_put (hst : Star H w (own (OR.ownS e (OR.frz RP.int)) [.slice (some ⟨g, 0, none⟩) len cap] xs :: As)) (ys : List Int) (hl : ys.length = xs.length) :
    Star H (Go.Sort.putRow (Value.int .i64) w g 0 ys.toArray) (own (OR.ownS e (OR.frz RP.int)) [.slice (some ⟨g, 0, none⟩) len cap] ys :: As) := by
  have key : ∀ n, n ≤ xs.length → Star H (Go.Sort.putRow (Value.int .i64) w g 0 (ys.take n ++ xs.drop n).toArray) (own (OR.ownS e (OR.frz RP.int)) [.slice (some ⟨g, 0, none⟩) len cap] (ys.take n ++ xs.drop n) :: As) := by
    intro n
    induction n with
    | zero =>
      intro _
      simp only [List.take_zero, List.nil_append, List.drop_zero]
      rw [Go.Sort.putRow_self _ _ _ _ _ (own_holds hst)]
      exact hst
    | succ n ih =>
      intro hn
      have h := ih (by omega)
      have hlen : n < (ys.take n ++ xs.drop n).length := by simp; omega
      have h2 := own_cell h hlen (ys[n]'(by omega))
      have e1 := Go.Sort.putRow_set (Value.int .i64) w g 0 (ys.take n ++ xs.drop n).toArray n (ys[n]'(by omega)) (by simpa using hlen)
      rw [Nat.zero_add] at e1
      rw [e1] at h2
      have e3 : (ys.take n ++ xs.drop n).set n (ys[n]'(by omega)) = ys.take (n + 1) ++ xs.drop (n + 1) := by
        have hd : xs.drop n = xs[n]'(by omega) :: xs.drop (n + 1) := List.drop_eq_getElem_cons (by omega)
        rw [hd, List.set_append_right _ _ (by simp; omega), show n - (ys.take n).length = 0 by simp; omega, List.set_cons_zero, List.take_succ_eq_append_getElem (by omega), List.append_assoc]
        rfl
      have e4 : (ys.take n ++ xs.drop n).toArray.setIfInBounds n (ys[n]'(by omega)) = (ys.take (n + 1) ++ xs.drop (n + 1)).toArray := by
        rw [← e3]; simp
      rw [e3, e4] at h2
      exact h2
  have := key xs.length (Nat.le_refl _)
  rw [List.drop_length, List.append_nil, List.take_of_length_le (by omega)] at this
  exact this
theorem compact_own {P : Program} {f : FuncId} {v : Value} (keep : List Int → List Int) (hk : ∀ zs, (keep zs).length ≤ zs.length) (hk0 : keep [] = [])
    (hC : ∀ (blk off cap : Nat) (zs : List Int) (w : World), Go.Sort.Holds (Value.int .i64) w blk off zs.toArray → zs.length ≤ 9223372036854775807 → zs.length ≤ cap →
      Calls P f #[.slice (some ⟨blk, off, none⟩) zs.length cap] w fun e w' => e = .returned (.slice (some ⟨blk, off, none⟩) (keep zs).length cap) ∧ ∃ q, w' = Go.Sort.putRow (Value.int .i64) (Go.Sort.ahead w q) blk off (keep zs ++ List.replicate (zs.length - (keep zs).length) 0).toArray)
    (hE : ∀ (a : Option Addr) (cap : Nat) (w : World), Calls P f #[.slice a 0 cap] w fun e w' => e = .returned (.slice a 0 cap) ∧ w' = w)
    (hst : Star H w (own (OR.ownS e (OR.frz RP.int)) [v] xs :: As)) : C P f #[v] w fun v' w' => Star H w' (own (OR.ownS e (OR.frz RP.int)) [v'] (keep xs) :: As) := by
  obtain ⟨F, hF⟩ := hst.one
  rcases hF with ⟨hv, hx, _⟩ | ⟨g, cap, c, Fs, hv, hb, g1, g2, g3, _, he⟩
  · simp at hv
    subst hv hx
    refine Calls.mono (hE none 0 w) ?_
    rintro e' w' ⟨rfl, rfl⟩
    refine ⟨_, rfl, ?_⟩
    rw [hk0]
    exact hst
  · simp at hv
    subst hv
    have hcap : cap ≤ 9223372036854775807 := by unfold maxLen at g2; omega
    refine Calls.mono (hC g 0 cap xs w (own_holds hst) (by omega) g1) ?_
    rintro e' w' ⟨rfl, q, rfl⟩
    refine ⟨_, rfl, ?_⟩
    have hst2 : Star H (Go.Sort.ahead w q) (own (OR.ownS e (OR.frz RP.int)) [.slice (some ⟨g, 0, none⟩) xs.length cap] xs :: As) := Star.drew (w.drawn + q) hst
    have h3 := own_put hst2 (keep xs ++ List.replicate (xs.length - (keep xs).length) 0) (by have := hk xs; simp; omega)
    have h4 := own_shrink h3 (k := (keep xs).length) (by simp)
    rw [List.take_left'] at h4
    · exact h4
    · rfl
def slices_Compact_int (xs : List Int) : Option (List Int) := some (Go.Lib.compact xs)
theorem compact_le (zs : List Int) : (Go.Lib.compact zs).length ≤ zs.length := Go.Lib.compact_length_le zs
end Go.E
