/- A trimmed proof is a refutation; the laws of trimming. -/
import Derived.Test.YtiodhgbfceahfaaK39
namespace Go.L
open Go Go.E
set_option linter.unusedVariables false
set_option linter.unusedSimpArgs false
set_option maxRecDepth 100000
theorem getD_setB (x : List Bool) (i k : Nat) (b : Bool) : (x.set i b).getD k false = if i = k ∧ k < x.length then b else x.getD k false := by
  rw [List.getD_eq_getElem?_getD, List.getElem?_set, List.getD_eq_getElem?_getD]
  by_cases h : i = k
  · subst h
    by_cases hl : i < x.length
    · simp [hl]
    · simp [hl]
  · simp [h]
theorem getD_fill (x : List Bool) (k i : Nat) : (List.replicate k true ++ x.drop k).getD i false = if i < k then true else x.getD i false := by
  rw [List.getD_eq_getElem?_getD, List.getD_eq_getElem?_getD]
  by_cases h : i < k
  · rw [List.getElem?_append_left (by simpa using h), List.getElem?_replicate_of_lt h, if_pos h]
    rfl
  · rw [List.getElem?_append_right (by simpa using h), List.length_replicate, List.getElem?_drop, if_neg h]
    congr 2
    omega
theorem mark_mono (s : Step) (k : Nat) (x : List Bool) (i : Nat) (h : x.getD i false = true) : (markN s k x).getD i false = true := by
  unfold markN
  split
  · rw [getD_setB, getD_setB]
    split
    · rfl
    · split
      · rfl
      · exact h
  split
  · rw [getD_fill]; split
    · rfl
    · exact h
  split
  · exact h
  · rw [getD_setB]; split
    · rfl
    · exact h
theorem mark_only {s : Step} {k : Nat} (hr : RefOK k s) (x : List Bool) (i : Nat) (hi : k ≤ i) : (markN s k x).getD i false = x.getD i false := by
  obtain ⟨⟨k1, k7⟩, ha, hb⟩ := hr
  unfold markN
  split
  · rename_i h1
    have := ha (by omega)
    have := hb h1
    rw [getD_setB, getD_setB, if_neg (by omega), if_neg (by omega)]
  split
  · rw [getD_fill, if_neg (by omega)]
  split
  · rfl
  · have := ha (by omega)
    rw [getD_setB, if_neg (by omega)]
theorem mark_refs {s : Step} {k : Nat} (hr : RefOK k s) (x : List Bool) (hk : k ≤ x.length) :
    (s.kind ≤ 5 → (markN s k x).getD s.a.toNat false = true) ∧ (s.kind = 1 → (markN s k x).getD s.b.toNat false = true) ∧ (s.kind = 7 → ∀ i, i < k → (markN s k x).getD i false = true) := by
  obtain ⟨⟨k1, k7⟩, ha, hb⟩ := hr
  refine ⟨fun h5 => ?_, fun h1 => ?_, fun h7 i hi => ?_⟩
  · have := ha h5
    unfold markN
    split
    · rw [getD_setB, getD_setB]
      split
      · rfl
      · rw [if_pos (by omega)]
    rw [if_neg (by omega), if_neg (by omega), getD_setB, if_pos (by omega)]
  · have := hb h1
    unfold markN
    rw [if_pos h1, getD_setB, if_pos (by rw [List.length_set]; omega)]
  · unfold markN
    rw [if_neg (by omega), if_pos h7, getD_fill, if_pos hi]
theorem needG_mono (n : Nat) (bs : List Step) : ∀ (j : Nat) (x : List Bool) (i : Nat), x.getD i false = true → (needG n bs j x).getD i false = true
  | 0, _, _, h => h
  | j + 1, x, i, h => by
    refine needG_mono n bs j _ i ?_
    unfold stepN
    split
    · split
      · exact mark_mono _ _ _ _ h
      · exact h
    · exact h
theorem needG_only (n : Nat) (bs : List Step) (hr : ∀ j s, bs[j]? = some s → RefOK (n + j) s) : ∀ (j : Nat) (x : List Bool) (i : Nat), n + j ≤ i → (needG n bs j x).getD i false = x.getD i false
  | 0, _, _, _ => rfl
  | j + 1, x, i, h => by
    rw [needG, needG_only n bs hr j _ i (by omega)]
    unfold stepN
    split
    · rename_i s hs
      split
      · exact mark_only (hr j s hs) x i (by omega)
      · rfl
    · rfl
/-- what a needed step refers to is needed -/
structure Refs (x : List Bool) (k : Nat) (s : Step) : Prop where
  a : s.kind ≤ 5 → x.getD s.a.toNat false = true
  b : s.kind = 1 → x.getD s.b.toNat false = true
  r : s.kind = 7 → ∀ i, i < k → x.getD i false = true
theorem needG_refs (n : Nat) (bs : List Step) (hr : ∀ j s, bs[j]? = some s → RefOK (n + j) s) : ∀ (m : Nat) (x : List Bool), n + m ≤ x.length → ∀ j s, j < m → bs[j]? = some s → (needG n bs m x).getD (n + j) false = true → Refs (needG n bs m x) (n + j) s
  | 0, _, _, j, _, hj, _, _ => by omega
  | m + 1, x, hl, j, s, hj, hs, hx => by
    have hsl := stepN_len n bs m x (by omega)
    rw [needG] at hx ⊢
    by_cases e : j = m
    · subst e
      rw [needG_only n bs hr j _ _ (Nat.le_refl _)] at hx
      have hx0 : x.getD (n + j) false = true := by
        unfold stepN at hx
        rw [hs] at hx
        simp only at hx
        split at hx
        · assumption
        · assumption
      have hst : stepN n bs j x = markN s (n + j) x := by
        unfold stepN
        rw [hs]
        simp only
        rw [if_pos hx0]
      rw [hst]
      obtain ⟨q1, q2, q3⟩ := mark_refs (hr j s hs) x (by omega)
      exact ⟨fun h => needG_mono n bs j _ _ (q1 h), fun h => needG_mono n bs j _ _ (q2 h), fun h i hi => needG_mono n bs j _ _ (q3 h i hi)⟩
    · exact needG_refs n bs hr m _ (by omega) j s (by omega) hs hx
/-! the trimmed proof runs -/
structure Sim (n : Nat) (x : List Bool) (d : Db) (es : List Con) : Prop where
  od : OkDb d
  oe : OkDb (initD es)
  len : es.length = pl n x d.list.length
  get : ∀ a, a < d.list.length → kp n x a = true → es[pl n x a]? = d.list[a]?
theorem live_init {es : List Con} {k : Nat} (h : k < es.length) : liveD (initD es) (k : Int) = true := by
  unfold liveD initD
  simp only [Int.toNat_natCast]
  rw [List.getD_eq_getElem?_getD, List.getElem?_replicate_of_lt h]
  simp [h]
theorem sim_ref {n : Nat} {x : List Bool} {d : Db} {es : List Con} (S : Sim n x d es) {a : Int} (h : liveD d a = true) (hk : kp n x a.toNat = true) : liveD (initD es) (pl n x a.toNat : Int) = true ∧ getC (initD es) (pl n x a.toNat : Int) = getC d a := by
  obtain ⟨h1, _, h3, h4, _⟩ := live_idx S.od h
  have hlt : a.toNat < d.list.length := by omega
  have hp := pl_lt n x hlt hk
  refine ⟨live_init (by rw [S.len]; exact hp), ?_⟩
  unfold getC initD
  simp only [Int.toNat_natCast]
  rw [List.getD_eq_getElem?_getD, List.getD_eq_getElem?_getD, S.get _ hlt hk]
theorem kp_of {n : Nat} {x : List Bool} {i : Nat} (h : x.getD i false = true) : kp n x i = true := by unfold kp; rw [h, Bool.or_true]
theorem ren_parts (n : Nat) (x : List Bool) (s : Step) (hk : 1 ≤ s.kind ∧ s.kind ≤ 7) (h : partsB s = true) : partsB (renS n x s) = true := by
  unfold partsB renS at *
  simp only at *
  have : s.kind = 1 ∨ s.kind = 2 ∨ s.kind = 3 ∨ s.kind = 4 ∨ s.kind = 5 ∨ s.kind = 6 ∨ s.kind = 7 := by omega
  rcases this with e | e | e | e | e | e | e <;> simp [e] at h ⊢ <;> exact h
theorem ren_derive {n : Nat} {x : List Bool} {d : Db} {es : List Con} (S : Sim n x d es) {s : Step} {c : Con} (hk : 1 ≤ s.kind ∧ s.kind ≤ 7) (hr : Refs x d.list.length s) (h : deriveD d s = (c, true)) : deriveD (initD es) (renS n x s) = (c, true) := by
  unfold deriveD at h ⊢
  have hkind : (renS n x s).kind = s.kind := rfl
  have hgiven : (renS n x s).given = s.given := rfl
  rw [hkind, hgiven]
  by_cases h6 : s.kind = 6
  · rw [if_pos h6] at h ⊢
    have : (renS n x s).a = s.a := by unfold renS; simp [h6]
    rw [this]; exact h
  rw [if_neg h6] at h ⊢
  by_cases h7 : s.kind = 7
  · rw [if_pos h7] at h ⊢
    simp only [Prod.mk.injEq, Bool.and_eq_true] at h ⊢
    refine ⟨h.1, h.2.1, ?_⟩
    have hke : keptD (initD es) = es := by unfold keptD initD; exact kept_all es
    rw [hke]
    refine rup_mono S.oe.ok h.2.1 (fun y hy => ?_) h.2.2
    obtain ⟨a, ha⟩ := List.getElem?_of_mem (keptL_mem _ _ y hy)
    have hal := (List.getElem?_eq_some_iff.1 ha).1
    have := S.get a hal (kp_of (hr.r h7 a hal))
    rw [ha] at this
    exact List.mem_of_getElem? this
  rw [if_neg h7] at h ⊢
  split at h
  · cases h
  rename_i hl
  have hl : liveD d s.a = true := by simpa using hl
  have ea : (renS n x s).a = (pl n x s.a.toNat : Int) := by unfold renS; simp [h6, h7]
  obtain ⟨l1, l2⟩ := sim_ref S hl (kp_of (hr.a (by omega)))
  rw [ea, l1, l2, if_neg (by simp)]
  by_cases h1 : s.kind = 1
  · rw [if_pos h1] at h ⊢
    split at h
    · cases h
    rename_i hm
    have hm : liveD d s.b = true := by simpa using hm
    have eb : (renS n x s).b = (pl n x s.b.toNat : Int) := by unfold renS; simp [h1]
    obtain ⟨m1, m2⟩ := sim_ref S hm (kp_of (hr.b h1))
    rw [eb, m1, m2, if_neg (by simp)]
    exact h
  · have eb : (renS n x s).b = s.b := by unfold renS; simp [h1]
    rw [if_neg h1] at h ⊢
    rw [eb]
    exact h
theorem sim_run {n : Nat} {bs : List Step} {x : List Bool} (hr : ∀ j s, bs[j]? = some s → x.getD (n + j) false = true → Refs x (n + j) s) : ∀ (ss : List Step) (d : Db) (es : List Con) (i i' j : Nat), Sim n x d es → d.list.length = n + j → bs.drop j = byL ss → d.list.length + ss.length ≤ 2000 → (runD d ss i).2 < 0 →
    ∃ es', runD (initD es) (trimR n x (byL ss) (n + j)) i' = (initD es', -1) ∧ Sim n x (runD d ss i).1 es'
  | [], d, es, i, i', j, S, _, _, _, _ => ⟨es, rfl, S⟩
  | s :: ss, d, es, i, i', j, S, hj, hd, hl, hrun => by
    simp only [List.length_cons] at hl
    rw [runD] at hrun ⊢
    cases he : stepD d s with
    | none => rw [he] at hrun; simp only at hrun; omega
    | some d' =>
      rw [he] at hrun
      simp only at hrun ⊢
      obtain ⟨hok', hlen'⟩ := stepD_ok S.od (by omega) he
      have he0 := he
      unfold stepD at he
      split at he
      · cases he
      rename_i hp
      have hp : partsB s = true := by simpa using hp
      split at he
      · rename_i h8
        split at he
        · have e : byL (s :: ss) = byL ss := by unfold byL; rw [List.filter_cons, h8]; rfl
          rw [e] at hd ⊢
          cases he
          exact sim_run hr ss _ es (i + 1) i' j ⟨hok', S.oe, S.len, S.get⟩ hj hd (by simp only; omega) hrun
        · cases he
      · rename_i h8
        split at he
        · rename_i hok
          cases he
          have e : byL (s :: ss) = s :: byL ss := by
            have : (s.kind != 8) = true := by simpa using h8
            unfold byL; rw [List.filter_cons, this]; rfl
          rw [e] at hd ⊢
          have hsj : bs[j]? = some s := by
            have := drop_idx hd
            rwa [idx_nat] at this
          have hpl : (pushD d (deriveD d s).1).list.length = n + (j + 1) := by simp [pushD]; omega
          have hkk : kp n x d.list.length = x.getD (n + j) false := by unfold kp; rw [hj, decide_eq_false (by omega), Bool.false_or]
          rw [trimR]
          cases hx : x.getD (n + j) false with
          | false =>
            rw [hx] at hkk
            rw [if_neg (by simp)]
            refine sim_run hr ss _ es (i + 1) i' (j + 1) ⟨hok', S.oe, ?_, ?_⟩ hpl (drop_next hd) (by omega) hrun
            · rw [S.len, show (pushD d (deriveD d s).1).list.length = d.list.length + 1 by simp [pushD], pl_succ, hkk]
              simp
            · intro a ha hka
              have hne : a ≠ d.list.length := by intro e; rw [e, hkk] at hka; cases hka
              have hlt : a < d.list.length := by simp [pushD] at ha; omega
              rw [S.get a hlt hka]
              simp only [pushD]
              rw [List.getElem?_append_left hlt]
          | true =>
            rw [hx] at hkk
            rw [if_pos rfl, runD]
            have hk8 := parts_kind hp
            have hk7 : 1 ≤ s.kind ∧ s.kind ≤ 7 := by omega
            have hrefs := hr j s hsj hx
            rw [← hj] at hrefs
            have hder := ren_derive S (c := (deriveD d s).1) hk7 hrefs (by rw [← hok])
            have hst : stepD (initD es) (renS n x s) = some (initD (es ++ [(deriveD d s).1])) := by
              unfold stepD
              have hkind : (renS n x s).kind = s.kind := rfl
              rw [ren_parts n x s hk7 hp, hkind, if_neg (by simp), if_neg h8, hder, if_pos rfl, push_init]
            rw [hst]
            have hple := pl_le n x d.list.length
            have hel := S.len
            obtain ⟨hoke, _⟩ := stepD_ok S.oe (by simp [initD]; omega) hst
            refine sim_run hr ss _ _ (i + 1) (i' + 1) (j + 1) ⟨hok', hoke, ?_, ?_⟩ hpl (drop_next hd) (by omega) hrun
            · rw [show (pushD d (deriveD d s).1).list.length = d.list.length + 1 by simp [pushD], pl_succ, hkk, List.length_append, S.len]
              simp
            · intro a ha hka
              by_cases hea : a = d.list.length
              · subst hea
                simp only [pushD]
                rw [← S.len, List.getElem?_append_right (Nat.le_refl _), List.getElem?_append_right (Nat.le_refl _), Nat.sub_self, Nat.sub_self]
              · have hlt : a < d.list.length := by simp [pushD] at ha; omega
                have hpa := pl_lt n x hlt hka
                simp only [pushD]
                rw [List.getElem?_append_left (by rw [S.len]; exact hpa), List.getElem?_append_left hlt]
                exact S.get a hlt hka
        · cases he
theorem trim_ref {list : List Con} {steps : List Step} (h : refB list steps = true) : refB list (trimP list steps).1 = true := by
  have T := trim_of h
  have hx := need0_len T
  have hlen := T.len
  have hby := byL_le steps
  have := T.n400
  have := T.m1000
  unfold trimP
  rw [if_pos h]
  simp only
  have htl := trimR_len list.length (need0 list steps) (byL steps) list.length
  have hp := (fits_parts T.fits).1
  have hfit : fitsB list (trimR list.length (need0 list steps) (byL steps) list.length) = true := by unfold fitsB; rw [hp]; simp; omega
  have hrefs : ∀ j s, (byL steps)[j]? = some s → (need0 list steps).getD (list.length + j) false = true → Refs (need0 list steps) (list.length + j) s := fun j s hs hn =>
    needG_refs list.length (byL steps) T.refs (byL steps).length _ (by simp; omega) j s (List.getElem?_eq_some_iff.1 hs).1 hs hn
  obtain ⟨es, he, S⟩ := sim_run (bs := byL steps) hrefs steps (initD list) list 0 0 0 ⟨initD_ok hp, initD_ok hp, by rw [pl_small _ _ _ (by simp [initD])]; rfl, fun a ha _ => by rw [pl_small _ _ _ (by simp [initD] at ha; omega)]; rfl⟩ (by simp [initD]) (by simp) (by simp [initD]; omega) T.neg
  rw [Nat.add_zero] at he
  rw [refB_iff]
  refine ⟨hfit, ?_, ?_⟩
  · unfold runL; rw [he]; simp
  · unfold runL
    rw [he]
    have h0 := T.at0
    have hd := T.db
    unfold falseAt at h0
    rcases fAt_spec (runL list steps).1.list (runL list steps).1.gone 0 with h | ⟨k, hk, c, hc, hf, hg⟩
    · omega
    · have hkl := (List.getElem?_eq_some_iff.1 hc).1
      have hn : (need0 list steps).getD k false = true := by
        refine needG_mono _ _ _ _ _ ?_
        have e : falseAt (runL list steps).1 = (k : Int) := by unfold falseAt; rw [hk]; simp
        rw [e, getD_setB]
        simp [hkl]
      have hkp : kp list.length (need0 list steps) k = true := kp_of hn
      have hge := S.get k hkl hkp
      have hpl := pl_lt list.length (need0 list steps) hkl hkp
      have hel := S.len
      refine fAt_some es _ 0 (pl list.length (need0 list steps) k) c (by rw [hge]; exact hc) hf ?_
      show (List.replicate es.length false)[_]? = _
      rw [List.getElem?_replicate_of_lt]
      rw [hel]
      exact hpl
/-! the laws -/
theorem i_same_steps (a b : List Step) : i_ProofSame a b = some (decide (a = b)) := by
  unfold i_ProofSame slices_EqualFunc_implStep
  by_cases hl : a.length = b.length
  · rw [if_neg (by simp [hl]), equal_list a b (b := slices_EqualFunc_implStep_b1 b i_ProofSame_1) (fun i x => by
      rw [slices_EqualFunc_implStep_b1]
      congr 1
      funext y
      have e : i_ProofSame_1 x y = some (decide (x = y)) := by
        unfold i_ProofSame_1
        rw [i_same]
        obtain ⟨k1, a1, b1, g1⟩ := x
        obtain ⟨k2, a2, b2, g2⟩ := y
        by_cases h1 : k1 = k2
        · by_cases h2 : a1 = a2
          · by_cases h3 : b1 = b2
            · by_cases h4 : g1 = g2 <;> simp [h1, h2, h3, h4]
            · simp [h1, h2, h3]
          · simp [h1, h2]
        · simp [h1]
      rw [e]
      by_cases h : x = y <;> simp [h]) hl]
    by_cases h : a = b <;> simp [h]
  · rw [if_pos (by simp; omega), decide_eq_false (by intro h; rw [h] at hl; exact hl rfl)]
    rfl
theorem trimR_mem (n : Nat) (x : List Bool) : ∀ (ss : List Step) (k : Nat), ∀ t ∈ trimR n x ss k, ∃ s ∈ ss, t = renS n x s
  | [], _, t, h => by simp [trimR] at h
  | s :: ss, k, t, h => by
    rw [trimR] at h
    split at h
    · rcases List.mem_cons.1 h with rfl | h
      · exact ⟨s, by simp, rfl⟩
      · obtain ⟨u, hu, e⟩ := trimR_mem n x ss (k + 1) t h
        exact ⟨u, by simp [hu], e⟩
    · obtain ⟨u, hu, e⟩ := trimR_mem n x ss (k + 1) t h
      exact ⟨u, by simp [hu], e⟩
theorem trim_mem {list : List Con} {steps : List Step} : ∀ t ∈ (trimP list steps).1, ∃ s ∈ steps, t.kind = s.kind ∧ t.given = s.given ∧ s.kind ≠ 8 := by
  intro t ht
  unfold trimP at ht
  split at ht
  · obtain ⟨s, hs, rfl⟩ := trimR_mem _ _ _ _ t ht
    unfold byL at hs
    rw [List.mem_filter] at hs
    exact ⟨s, hs.1, rfl, rfl, by simpa using hs.2⟩
  · simp at ht
theorem trim_len (list : List Con) (steps : List Step) : (trimP list steps).1.length ≤ steps.length := by
  unfold trimP
  split
  · exact Nat.le_trans (trimR_len _ _ _ _) (byL_le steps)
  · simp
theorem trim_lens {list : List Con} {steps : List Step} (h : lens steps) : lens (trimP list steps).1 := fun t ht => by
  obtain ⟨s, hs, _, e, _⟩ := trim_mem t ht
  rw [e]; exact h s hs
theorem trim_snd (list : List Con) (steps : List Step) : (trimP list steps).2 = refB list steps := by
  unfold trimP
  split
  · rename_i h; exact h.symm
  · rename_i h; simpa using h
theorem FnTrimProof_ok (code : List UInt8) (g0 : code.length ≤ 9223372036854775807 ∧ ∀ x ∈ code, True) : ∃ fu, l_FnTrimProof fu code = some true := by
  refine ⟨FU, ?_⟩
  unfold l_FnTrimProof
  split
  · rfl
  obtain ⟨x, hx, h1, h2⟩ := drawTrim_ok code FU fuFU
  have hl := smS_lens h2
  rw [hx, Option.bind_some, i_trim FU fuFU hl, Option.bind_some, s_trim FU fuFU (smL_ML h1) hl, Option.bind_some, i_same_steps]
  simp only [bne_self_eq_false, Bool.false_eq_true, if_false, Option.bind_some, decide_true, Bool.not_true, Bool.false_or, beq_self_eq_true, if_true]
  rw [trim_snd]
  cases hr : refB x.1 x.2 with
  | false => simp
  | true =>
    rw [if_neg (by simp), range_all (fun s : Step => !(s.kind == 8)) false (trimP x.1 x.2).1 fun i s hs => by rw [l_FnTrimProof_b1]; cases s.kind == 8 <;> rfl, Option.bind_some]
    have hall : ((trimP x.1 x.2).1.all fun s => !(s.kind == 8)) = true := by
      rw [List.all_eq_true]
      intro t ht
      obtain ⟨s, _, e, _, h8⟩ := trim_mem t ht
      simpa [e] using h8
    rw [hall]
    simp only [if_true]
    rw [i_trim FU fuFU (trim_lens hl), Option.bind_some, i_refB FU fuFU, Option.bind_some, trim_snd, trim_ref hr]
    have t1 := trim_len x.1 x.2
    have t2 := trim_len x.1 (trimP x.1 x.2).1
    simp
    omega
end Go.L
