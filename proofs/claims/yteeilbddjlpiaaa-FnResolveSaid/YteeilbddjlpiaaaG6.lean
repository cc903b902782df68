/- Elements of rows; slices of slices; calls; function values; loops. -/
import Derived.Test.YteeilbddjlpiaaaG5
import Derived.KernelRfl
namespace Go.E
open Go Go.RowKit
set_option linter.unusedVariables false
set_option linter.unusedSimpArgs false
section rules
variable {P : Program} {N : Nat} {Q : Post} {f : Fr} {w : World} {ops : Array Oper} {rest : List Oper} {d : Nat} {ty : TypeId} {pos : String} {af : Array Edge} {gd : Option (Nat × Bool)}
variable {x y : Operand} {v : Value} {H : FH} {As Bs : List Ass}
theorem L_ixO {α : Type} {R : OR α} {t e tb : TypeId} {xs : List α} {k : Int} {z : α} {g cap n : Nat} (i : Nat) (hk : ok1 ops f N d gd = true) (hu : P.underlying t = some (.slice e)) (hsz : ∀ w, (sizeOf e).run P w = .ok n w)
    (hx : ev f x = v) {len : Nat} (hv : v = .slice (some ⟨g, 0, none⟩) len cap) (hl : xs.length = len) (hy : ev f y = .int .i64 k) (hi' : idx xs k = some z)
    (h : L P N ops rest Q (upd f d (.pointer (some ⟨g, k.toNat * n, none⟩))) w) : L P N ops (⟨some d, .indexAddr t x y, ty, pos, af, gd⟩ :: rest) Q f w := by
  obtain ⟨h0, hz, hlt⟩ := idx_some hi'
  refine L_pure hk ?_ h
  subst hl
  have hlt' : k < (xs.length : Int) := by omega
  simp [execOp, hx, hy, hv, Instr.indexAt, asIntOf, run_underlying hu, h0, hlt', hsz, add_lit]
theorem star_set {α : Type} {R : OR α} {e : TypeId} {xs : List α} {k : Nat} {z : α} {g cap len : Nat} {C : List Ass} {us : List Value} {w' : World} {c c2 : Array Value}
    (hst : Star H w (C ++ (own (OR.ownS e R) [.slice (some ⟨g, 0, none⟩) len cap] xs :: As))) (hkl : k < xs.length) (hb : Blk w g e c) (hp : PutB g w w') (hb2 : Blk w' g e c2) (hsz : c2.size = c.size)
    (hin : ∀ j u, us[j]? = some u → c2[k * R.r.n + j]? = some u) (hout : ∀ j, j < k * R.r.n ∨ k * R.r.n + R.r.n ≤ j → c2[j]? = c[j]?)
    (hC : ∀ F Gk cs x, SepL C H w F → xs[k]? = some x → R.rel H w Gk cs x → (∀ j v, cs[j]? = some v → c[k * R.r.n + j]? = some v) → (F ++ Gk).Nodup → g ∉ F → g ∉ Gk → ∃ G', R.rel H w' G' us z ∧ G'.Nodup ∧ ∀ b ∈ G', b ∈ F ∨ b ∈ Gk) :
    Star H w' (own (OR.ownS e R) [.slice (some ⟨g, 0, none⟩) len cap] (xs.set k z) :: As) := by
  have hst2 : Star H w ((C ++ [own (OR.ownS e R) [.slice (some ⟨g, 0, none⟩) len cap] xs]) ++ As) := by simpa using hst
  obtain ⟨hs, F, hF, hn, hm, key⟩ := hst2.updL
  obtain ⟨F1, F2, rfl, h1, F3, F4, rfl, h3, hF4⟩ := SepL.split hF
  have hF4 : F4 = [] := hF4
  subst hF4
  rcases h3 with ⟨hv, _⟩ | ⟨g', cap', c', Fs, hv, hb', g1, g2, g3, rfl, he1, he2⟩
  · simp at hv
  simp at hv
  obtain ⟨rfl, rfl, rfl⟩ := hv
  have hcc : c = c' := by unfold Blk at hb hb'; rw [hb] at hb'; injection hb' with hb'; injection hb'
  subst hcc
  rw [List.append_nil] at hn hm key
  obtain ⟨hn1, hn2, hn3⟩ := List.nodup_append.1 hn
  obtain ⟨hgF, hnF⟩ := List.nodup_cons.1 hn2
  have hkF : k < Fs.length := by omega
  obtain ⟨cs, hr, hj⟩ := he2 k xs[k] Fs[k] (List.getElem?_eq_getElem hkl) (List.getElem?_eq_getElem hkF)
  have hspl : Fs = Fs.take k ++ Fs[k] :: Fs.drop (k + 1) := by rw [List.getElem_cons_drop, List.take_append_drop]
  have hfl : List.flatten Fs = List.flatten (Fs.take k) ++ (Fs[k] ++ List.flatten (Fs.drop (k + 1))) := by
    have h9 := congrArg List.flatten hspl
    rw [List.flatten_append, List.flatten_cons] at h9
    exact h9
  have hsub : ∀ b ∈ Fs[k], b ∈ List.flatten Fs := fun b hb => List.mem_flatten.2 ⟨_, List.getElem_mem hkF, hb⟩
  have hg1 : g ∉ F1 := fun hx => hn3 g hx g (by simp) rfl
  have hgk : g ∉ Fs[k] := fun hx => hgF (hsub g hx)
  have hnk : Fs[k].Nodup := by
    rw [hfl] at hnF
    exact (List.nodup_append.1 (List.nodup_append.1 hnF).2.1).1
  obtain ⟨G', hr', hG'n, hG's⟩ := hC F1 Fs[k] cs xs[k] h1 (List.getElem?_eq_getElem hkl) hr hj (List.nodup_append.2 ⟨hn1, hnk, fun a ha b hb => hn3 a ha b (List.mem_cons_of_mem _ (hsub b hb))⟩) hg1 hgk
  refine key (B := [_]) (Le.refl _) (hs.put hp (hm g (by simp)).1) (fun b hb hne => hp.2 b hb fun hx => hne (by subst hx; simp)) (fun b o x => .inl x) ?_
  have hlok : ∀ {G : List Nat} {cs' : List Value} {x : α}, R.rel H w G cs' x → g ∉ G → R.rel H w' G cs' x := fun h hg => R.loc h fun b hb => hp.2 b (R.lt h b hb) fun hx => hg (hx ▸ hb)
  have hnew : List.flatten (Fs.set k G') = List.flatten (Fs.take k) ++ (G' ++ List.flatten (Fs.drop (k + 1))) := by
    rw [List.set_eq_take_append_cons_drop, if_pos hkF]
    simp
  refine ⟨g :: List.flatten (Fs.set k G'), ⟨_, [], (List.append_nil _).symm, .inr ⟨g, cap, c2, Fs.set k G', by simp, hb2, by simpa using g1, g2, by rw [hsz]; exact g3, rfl, by simp [he1], fun i x G hi hG => ?_⟩, rfl⟩, ?_, ?_⟩
  · rw [List.getElem?_set] at hi hG
    by_cases hik : k = i
    · subst hik
      rw [if_pos rfl, if_pos hkl] at hi
      rw [if_pos rfl, if_pos hkF] at hG
      injection hi with hi; injection hG with hG
      subst hi hG
      exact ⟨us, hr', hin⟩
    · rw [if_neg hik] at hi hG
      obtain ⟨cs', hr2, hj2⟩ := he2 i x G hi hG
      refine ⟨cs', hlok hr2 (fun hx => hgF (List.mem_flatten.2 ⟨G, List.mem_of_getElem? hG, hx⟩)), fun j v hv => ?_⟩
      have hjl : j < R.r.n := by have := (List.getElem?_eq_some_iff.1 hv).1; rw [R.len hr2] at this; exact this
      rw [hout _ ?_]
      · exact hj2 j v hv
      · rcases Nat.lt_or_gt_of_ne hik with hlt | hlt
        · right
          have := Nat.mul_le_mul_right R.r.n (show k + 1 ≤ i from hlt)
          rw [Nat.add_mul] at this; omega
        · left
          have := Nat.mul_le_mul_right R.r.n (show i + 1 ≤ k from hlt)
          rw [Nat.add_mul] at this; omega
  · rw [hnew]
    rw [hfl] at hnF hgF
    obtain ⟨p1, p2, p3⟩ := List.nodup_append.1 hnF
    obtain ⟨p4, p5, p6⟩ := List.nodup_append.1 p2
    have hin1 : ∀ b ∈ List.flatten (Fs.take k), b ∈ List.flatten Fs := fun b hb => by rw [hfl]; exact List.mem_append_left _ hb
    have hin2 : ∀ b ∈ List.flatten (Fs.drop (k + 1)), b ∈ List.flatten Fs := fun b hb => by rw [hfl]; exact List.mem_append_right _ (List.mem_append_right _ hb)
    refine List.nodup_cons.2 ⟨fun hx => ?_, List.nodup_append.2 ⟨p1, List.nodup_append.2 ⟨hG'n, p5, fun a ha b hb hab => ?_⟩, fun a ha b hb hab => ?_⟩⟩
    · rcases List.mem_append.1 hx with hx | hx
      · exact hgF (List.mem_append_left _ hx)
      · rcases List.mem_append.1 hx with hx | hx
        · rcases hG's g hx with h | h
          · exact hg1 h
          · exact hgk h
        · exact hgF (List.mem_append_right _ (List.mem_append_right _ hx))
    · subst hab
      rcases hG's a ha with h | h
      · exact hn3 a h a (List.mem_cons_of_mem _ (hin2 a hb)) rfl
      · exact p6 a h a hb rfl
    · subst hab
      rcases List.mem_append.1 hb with hb | hb
      · rcases hG's a hb with h | h
        · exact hn3 a h a (List.mem_cons_of_mem _ (hin1 a ha)) rfl
        · exact p3 a ha a (List.mem_append_left _ h) rfl
      · exact p3 a ha a (List.mem_append_right _ hb) rfl
  · intro b hb
    have hb2 : b ∈ F1 ++ g :: List.flatten Fs := by
      rcases List.mem_cons.1 hb with rfl | hb
      · exact List.mem_append_right _ (by simp)
      · rw [hnew] at hb
        rcases List.mem_append.1 hb with hb | hb
        · exact List.mem_append_right _ (List.mem_cons_of_mem _ (by rw [hfl]; exact List.mem_append_left _ hb))
        · rcases List.mem_append.1 hb with hb | hb
          · rcases hG's b hb with h | h
            · exact List.mem_append_left _ h
            · exact List.mem_append_right _ (List.mem_cons_of_mem _ (hsub b h))
          · exact List.mem_append_right _ (List.mem_cons_of_mem _ (by rw [hfl]; exact List.mem_append_right _ (List.mem_append_right _ hb)))
    exact ⟨.inl hb2, (hm b hb2).1⟩
theorem own_fit {α : Type} {R : OR α} {e : TypeId} {xs : List α} {k : Nat} {g cap len : Nat} (hst : Star H w (own (OR.ownS e R) [.slice (some ⟨g, 0, none⟩) len cap] xs :: As)) (hk : k < xs.length) : ∃ c, Blk w g e c ∧ k * R.r.n + R.r.n ≤ c.size := by
  obtain ⟨F, hF⟩ := hst.one
  rcases hF with ⟨hv, _⟩ | ⟨g', cap', c', Fs, hv, hb', g1, g2, g3, _⟩
  · simp at hv
  simp at hv
  obtain ⟨rfl, rfl, rfl⟩ := hv
  refine ⟨c', hb', ?_⟩
  rw [g3]
  have := Nat.mul_le_mul_right R.r.n (show k + 1 ≤ cap by omega)
  rw [Nat.add_mul] at this; omega
theorem L_stE1 {α : Type} {R : OR α} {t e : TypeId} {xs : List α} {k : Int} {z z0 : α} {g cap len : Nat} {u : Value} (hk : ok0 ops f gd = true) (hsz : ∀ w, (sizeOf t).run P w = .ok 1 w) (hn : R.r.n = 1)
    (hx : ev f x = .pointer (some ⟨g, k.toNat * 1, none⟩)) (hy : ev f y = u) (hv : v = .slice (some ⟨g, 0, none⟩) len cap) (hst : Star H w (own R [u] z :: own (OR.ownS e R) [v] xs :: As)) (hi' : idx xs k = some z0)
    (h : ∀ w', Star H w' (own (OR.ownS e R) [v] (xs.set k.toNat z) :: As) → L P N ops rest Q f w') : L P N ops (⟨none, .store t x y, ty, pos, af, gd⟩ :: rest) Q f w := by
  subst hv
  obtain ⟨h0, hz, hlt⟩ := idx_some hi'
  obtain ⟨c, hb, hfit⟩ := own_fit hst.tail hlt
  obtain ⟨F0, hF0⟩ := hst.one
  have h1 : u.oneCell' = true := R.one hF0 u (by simp)
  rw [hn] at hfit
  obtain ⟨u0, hu0⟩ : ∃ u0, c[k.toNat * 1]? = some u0 := ⟨_, Array.getElem?_eq_getElem (by omega)⟩
  refine L_none (w' := w.setCell ⟨g, k.toNat * 1, none⟩ u) hk (by simp only [execOp, hx, hy]; simp [Instr.storeAt, Instr.sureAddr]; rw [show k.toNat = k.toNat * 1 from by omega, run_storeVar1 hsz hb hu0 h1]; simp) (h _ ?_)
  refine star_set (C := [own R [u] z]) hst hlt hb putB_setCell (blk_setCell hb) (by simp) (us := [u]) (fun j u' hj => ?_) (fun j hj => ?_) ?_
  · cases j with
    | zero =>
      simp at hj; subst hj; rw [hn]
      have : k.toNat * 1 < c.size := by omega
      rw [Nat.add_zero, Array.getElem?_setIfInBounds_self_of_lt this]
    | succ j => simp at hj
  · rw [Array.getElem?_setIfInBounds_ne (by rw [hn] at hj; omega)]
  · rintro F Gk cs x ⟨F1, F2, rfl, hr1, hF2⟩ hxk hr2 hj hnd hg1 hgk
    have hF2 : F2 = [] := hF2
    subst hF2
    rw [List.append_nil] at hnd hg1
    exact ⟨F1, R.loc hr1 fun b hb => putB_setCell.2 b (R.lt hr1 b hb) fun hx => hg1 (hx ▸ hb), (List.nodup_append.1 hnd).1, fun b hb => .inl (by simpa using hb)⟩
theorem L_stF {α : Type} {R : OR α} {t e : TypeId} {xs : List α} {k : Int} {z z0 : α} {g cap len n j : Nat} {u : Value} (hk : ok0 ops f gd = true) (hsz : ∀ w, (sizeOf t).run P w = .ok 1 w) (hn : R.r.n = n)
    (hx : ev f x = .pointer (some ⟨g, k.toNat * n + j, none⟩)) (hy : ev f y = u) (h1 : u.oneCell' = true) (hv : v = .slice (some ⟨g, 0, none⟩) len cap) (hst : Star H w (own (OR.ownS e R) [v] xs :: As)) (hi' : idx xs k = some z0)
    (hfld : ∀ H w G cs, R.rel H w G cs z0 → j < cs.length ∧ R.rel H w G (cs.set j u) z)
    (h : ∀ w', Star H w' (own (OR.ownS e R) [v] (xs.set k.toNat z) :: As) → L P N ops rest Q f w') : L P N ops (⟨none, .store t x y, ty, pos, af, gd⟩ :: rest) Q f w := by
  subst hv
  subst hn
  obtain ⟨h0, hz, hlt⟩ := idx_some hi'
  obtain ⟨c, hb, hfit⟩ := own_fit hst hlt
  obtain ⟨G0, cs0, hr0, c0, t0, fz0, hc0, hj0⟩ := hst.elt 0 rfl rfl hi'
  have hcc : c0 = c := by unfold Blk at hb; rw [hb] at hc0; injection hc0 with hc0; injection hc0 with hc0; exact hc0.symm
  subst hcc
  have hjl : j < cs0.length := (hfld _ _ _ _ hr0).1
  have hcl : cs0.length = R.r.n := R.len hr0
  have hu0 := hj0 j cs0[j] (List.getElem?_eq_getElem hjl)
  refine L_none (w' := w.setCell ⟨g, k.toNat * R.r.n + j, none⟩ u) hk (by simp [execOp, hx, hy, Instr.storeAt, Instr.sureAddr, run_storeVar1 hsz hb hu0 h1]) (h _ ?_)
  refine star_set (C := []) hst hlt hb putB_setCell (blk_setCell hb) (by simp) (us := cs0.set j u) (fun i u' hi => ?_) (fun i hi => ?_) ?_
  · have hil : i < cs0.length := by have := (List.getElem?_eq_some_iff.1 hi).1; simpa using this
    rw [List.getElem?_set] at hi
    by_cases hji : j = i
    · subst hji
      rw [if_pos rfl, if_pos hjl] at hi
      injection hi with hi
      subst hi
      rw [Array.getElem?_setIfInBounds_self_of_lt (by omega)]
    · rw [if_neg hji] at hi
      rw [Array.getElem?_setIfInBounds_ne (by omega)]
      exact hj0 i u' hi
  · rw [Array.getElem?_setIfInBounds_ne (by omega)]
  · rintro F Gk cs x hF hxk hr2 hj hnd hg1 hgk
    have hF : F = [] := hF
    subst hF
    rw [hz] at hxk; injection hxk with hxk; subst hxk
    have hcs : cs = cs0 := by
      have hl2 : cs.length = R.r.n := R.len hr2
      refine List.ext_getElem? fun i => ?_
      rcases Nat.lt_or_ge i cs.length with hi | hi
      · rw [List.getElem?_eq_getElem hi, List.getElem?_eq_getElem (by omega)]
        have a := hj i _ (List.getElem?_eq_getElem hi)
        have b := hj0 i _ (List.getElem?_eq_getElem (show i < cs0.length by omega))
        rw [a] at b; exact b
      · rw [List.getElem?_eq_none hi, List.getElem?_eq_none (by omega)]
    subst hcs
    exact ⟨Gk, R.loc (hfld _ _ _ _ hr2).2 fun b hb => putB_setCell.2 b (R.lt hr2 b hb) fun hx => hgk (hx ▸ hb), (List.nodup_append.1 hnd).2.1, fun b hb => .inr hb⟩
theorem slice_cut {α : Type} {r : RP α} {e : TypeId} {xs : List α} {l h cap : Nat} {a : Option Addr} (hs : (RP.slice e r).rel H [.slice a xs.length cap] xs) (hl : l ≤ h) (hh : h ≤ xs.length) :
    (RP.slice e r).rel H [.slice (if cap = l then a else a.map (·.add (l * r.n))) (h - l) (cap - l)] ((xs.take h).drop l) := by
  obtain ⟨base, cap', hv, h1, h2, h3⟩ := hs
  simp only [List.cons.injEq, and_true, Value.slice.injEq, true_and] at hv
  obtain ⟨rfl, rfl⟩ := hv
  have hlen : ((xs.take h).drop l).length = h - l := by simp; omega
  refine ⟨_, _, by rw [hlen], by rw [hlen]; omega, by omega, fun hne => ?_⟩
  have hlt : l < h := by
    rcases Nat.lt_or_ge l h with x | x
    · exact x
    · exact absurd (List.eq_nil_of_length_eq_zero (by omega)) hne
  obtain ⟨g, o, c, t', fz, hb, hc, he⟩ := h3 (by rintro rfl; simp at hh; omega)
  subst hb
  refine ⟨g, o + l * r.n, c, t', fz, ?_, hc, fun i z hz => ?_⟩
  · rw [if_neg (by omega)]
    simp [add_lit]
  · rw [List.getElem?_drop, List.getElem?_take] at hz
    split at hz
    · obtain ⟨cs', hr, hcs⟩ := he _ z hz
      refine ⟨cs', hr, fun j u hj => ?_⟩
      have := hcs j u hj
      rwa [show o + (l + i) * r.n + j = o + l * r.n + i * r.n + j from by rw [Nat.add_mul]; omega] at this
    · cases hz
theorem run_sl {t e : TypeId} {n : Nat} {a b : Int} {base : Option Addr} {m cap : Nat} {sx : Operand} {low high : Option Operand} (he : ET P t e n) (hx : ev f sx = .slice base m cap) (hcap : m ≤ cap) 
    (hl : match low with | none => a = 0 | some o => ev f o = .int .i64 a) (hh : match high with | none => b = m | some o => ev f o = .int .i64 b) (h0 : 0 ≤ a) (hab : a ≤ b) (hbl : b ≤ m) :
    (execOp (ev f) ⟨some d, .slice t sx low high none, ty, pos, af, gd⟩).run P w = .ok (.value (.slice (if cap = a.toNat then base else base.map (·.add (a.toNat * n))) (b.toNat - a.toNat) (cap - a.toNat))) w := by
  have hb0 : 0 ≤ b := by omega
  have hbc : b ≤ (cap : Int) := by omega
  cases low with
  | none =>
    have hl : a = 0 := hl
    subst hl
    cases high with
    | none =>
      have hh : b = m := hh
      subst hh
      simp [execOp, hx, Instr.sliceAt, Instr.slice, run_underlying he.u, he.sz, Instr.sliceBounds]
    | some oh =>
      simp [execOp, hx, hh, Instr.sliceAt, Instr.slice, run_underlying he.u, he.sz, Instr.sliceBounds, Instr.sliceBound, asIntOf, hb0, hbc]
  | some ol =>
    cases high with
    | none =>
      subst hh
      simp [execOp, hx, hl, Instr.sliceAt, Instr.slice, run_underlying he.u, he.sz, Instr.sliceBounds, Instr.sliceBound, asIntOf, h0, hab]
    | some oh =>
      have e3 : a ≤ ((b.toNat : Nat) : Int) := by omega
      simp [execOp, hx, hl, hh, Instr.sliceAt, Instr.slice, run_underlying he.u, he.sz, Instr.sliceBounds, Instr.sliceBound, asIntOf, h0, hb0, hbc]
      omega
theorem L_sl {α : Type} {r : RP α} {t e : TypeId} {xs ys : List α} {a b : Int} {sx : Operand} {low high : Option Operand} (hk : ok1 ops f N d gd = true) (he : ET P t e r.n) (hx : ev f sx = v) (hs : (RP.slice e r).rel H [v] xs)
    (hl : match low with | none => a = 0 | some o => ev f o = .int .i64 a) (hh : match high with | none => b = xs.length | some o => ev f o = .int .i64 b) (hsl : sl xs a b = some ys)
    (h : ∀ u, (RP.slice e r).rel H [u] ys → L P N ops rest Q (upd f d u) w) : L P N ops (⟨some d, .slice t sx low high none, ty, pos, af, gd⟩ :: rest) Q f w := by
  obtain ⟨h0, hab, hbl, rfl⟩ := sl_some hsl
  obtain ⟨base, cap, hv, hcap, hmax⟩ := slice_len hs
  subst hv
  exact L_pure hk (run_sl he hx hcap hl hh h0 hab hbl) (h _ (slice_cut (l := a.toNat) (h := b.toNat) hs (by omega) (by omega)))
theorem L_slN {t e : TypeId} {n : Nat} {sx o : Operand} (hk : ok1 ops f N d gd = true) (he : ET P t e n) (hx : ev f sx = .slice none 0 0) (hy : ev f o = .int .i64 0)
    (h : L P N ops rest Q (upd f d (.slice none 0 0)) w) : L P N ops (⟨some d, .slice t sx none (some o) none, ty, pos, af, gd⟩ :: rest) Q f w := by
  have hr := run_sl (P := P) (w := w) (d := d) (ty := ty) (pos := pos) (af := af) (gd := gd) (a := 0) (b := 0) (low := none) (high := some o) he hx (Nat.le_refl 0) rfl hy (by omega) (by omega) (by simp)
  exact L_pure hk (by simpa using hr) h
theorem L_slO {α : Type} {R : OR α} {t e : TypeId} {xs ys : List α} {b : Int} {sx : Operand} {low high : Option Operand} (hk : ok1 ops f N d gd = true) (he : ET P t e R.r.n) (hx : ev f sx = v) (hst : Star H w (own (OR.ownS e R) [v] xs :: As))
    (hl : match low with | none => True | some o => ev f o = .int .i64 0) (hh : match high with | none => b = xs.length | some o => ev f o = .int .i64 b) (hsl : sl xs 0 b = some ys)
    (h : ∀ u, Star H w (own (OR.ownS e R) [u] ys :: As) → L P N ops rest Q (upd f d u) w) : L P N ops (⟨some d, .slice t sx low high none, ty, pos, af, gd⟩ :: rest) Q f w := by
  obtain ⟨h0, hab, hbl, hys⟩ := sl_some hsl
  obtain ⟨F, hF⟩ := hst.one
  obtain ⟨base, cap, hv, hcap, hmax⟩ := own_len hF
  subst hv
  have hr := run_sl (P := P) (w := w) (d := d) (ty := ty) (pos := pos) (af := af) (gd := gd) (a := 0) (low := low) (high := high) he hx hcap (by cases low with | none => exact rfl | some o => exact hl) hh h0 hab hbl
  have hys' : ys = xs.take b.toNat := by rw [hys]; simp
  refine L_pure hk hr (h _ ?_)
  have hval : (Value.slice (if cap = (0 : Int).toNat then base else base.map (·.add ((0 : Int).toNat * R.r.n))) (b.toNat - (0 : Int).toNat) (cap - (0 : Int).toNat)) = .slice base b.toNat cap := by
    cases base with
    | none => simp
    | some a => simp [Addr.add]
  rw [hval]
  obtain ⟨hs, G, ⟨F1, F2, rfl, h1, h2⟩, hn, hm⟩ := hst
  rcases h1 with ⟨hv, hxs, rfl⟩ | ⟨g, cap', c, Fs, hv, hb, g1, g2, g3, rfl, he1, he2⟩
  · simp at hv
    obtain ⟨rfl, _, rfl⟩ := hv
    subst hxs
    have : b.toNat = 0 := by simp at hbl; omega
    rw [this]
    exact ⟨hs, [] ++ F2, ⟨[], F2, rfl, .inl ⟨rfl, by rw [hys']; simp, rfl⟩, h2⟩, hn, hm⟩
  · simp at hv
    obtain ⟨rfl, rfl⟩ := hv
    have hsub : List.Sublist (g :: List.flatten (Fs.take b.toNat)) (g :: List.flatten Fs) := by
      refine List.Sublist.cons_cons _ ?_
      conv => rhs; rw [← List.take_append_drop b.toNat Fs, List.flatten_append]
      exact List.sublist_append_left _ _
    have hbl' : b.toNat ≤ xs.length := by omega
    refine ⟨hs, (g :: List.flatten (Fs.take b.toNat)) ++ F2, ⟨_, F2, rfl, .inr ⟨g, cap, c, Fs.take b.toNat, by rw [hys']; simp [Nat.min_eq_left hbl'], hb, by rw [hys']; simp; omega, g2, g3, rfl, by rw [hys']; simp [he1], fun i x G hi hG => ?_⟩, h2⟩, hn.sublist (hsub.append_right _), fun b hb => hm b ((hsub.append_right _).subset hb)⟩
    rw [hys', List.getElem?_take] at hi
    rw [List.getElem?_take] at hG
    split at hi
    · rename_i hlt
      rw [if_pos hlt] at hG
      exact he2 i x G hi hG
    · cases hi
end rules
end Go.E
