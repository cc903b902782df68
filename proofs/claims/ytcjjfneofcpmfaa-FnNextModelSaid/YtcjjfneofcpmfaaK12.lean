/- The law FnDecodeValues. -/
import Derived.Test.YtcjjfneofcpmfaaK11
namespace Go.L
open Go Go.E
set_option linter.unusedVariables false
set_option linter.unusedSimpArgs false
set_option maxRecDepth 100000

theorem l1Values_ok (r : Rd) (hb : r.b.length ≤ 2000) (h0 : 0 ≤ r.p) (h1 : r.p + 100 ≤ PM) : So (s_l1Values r) fun o => sBools o.1 := by
  unfold PM at h1
  unfold s_l1Values
  have hc : cntF 0 12 = some 12 := by rw [cntF_of (by omega) (by omega)]; rfl
  refine so_bind (P := fun k => k = 12) ⟨_, hc, rfl⟩ fun k hk => ?_
  subst hk
  refine so_bind (so_count (fun i (s : List Bool × Int) => s.1.length = i ∧ s.2 = r.p + i) 12 _ ⟨rfl, by simp⟩ ?_) ?_
  · rintro i ⟨out, p⟩ hi ⟨hI1, hI2⟩
    simp only at hI1 hI2
    unfold s_l1Values_b1
    refine so_bind (pick_ok _ _ hb (by simp only; omega) (by unfold PM; simp only; omega)) fun a ⟨ha, _, _⟩ => ?_
    simp only at ha
    exact so_bind (so_app (P := fun (o : List Bool) => o.length = i + 1) (by simp; omega) (by simp; omega)) fun o ho => so_some ⟨_, rfl, ho, by simp only; omega⟩
  rintro _ ⟨⟨out, p⟩, rfl, ho, hp⟩
  simp only at ho hp
  refine so_bind (pick_ok _ _ hb (by simp only; omega) (by unfold PM; simp only; omega)) fun a ⟨ha, _, _⟩ => so_ite (fun _ => ?_) fun _ => so_some (by unfold sBools; simp only; omega)
  have h2 : sl out 0 11 = some (out.take 11) := sl_pre (i := 11) (by omega)
  rw [h2]
  exact so_some (by unfold sBools; simp only [List.length_take]; omega)
theorem encode_len (m : Model) (cells : List Int) (h : (encode m cells).2 = true) : (encode m cells).1.length = 12 := by
  unfold encode at h ⊢
  split
  · exact encL_len m cells _
  · rename_i hn; rw [if_neg hn] at h; cases h
theorem encode_small (m : Model) (cells : List Int) : (encode m cells).1.length ≤ 12 := by
  unfold encode
  split
  · rw [encL_len]; omega
  · simp
theorem drawDecode_ok (code : List UInt8) (fu : Nat) (hf : FU ≤ fu) : s_DrawDecodeValues fu code = some () := by
  refine so_eq ?_
  unfold s_DrawDecodeValues
  refine so_bind (open_ok code) fun r ⟨hb, hp⟩ => ?_
  refine so_bind (model_ok r fu hf hb (by omega) (by unfold PM; omega)) fun m ⟨hm, _, _, hp1, hp2⟩ => ?_
  refine so_anyB (m.1, m.2) (mutate_ok _ _ fu hf hm hb (by simp only; omega) (by unfold PM; simp only; omega)) ⟨hm, by unfold rdOk; simp only; omega⟩ fun o ⟨ho, hr1, hr2⟩ => ?_
  refine so_bind (cells_ok _ _ ho.1 hb (by simp only; omega) (by unfold PM; simp only; omega)) fun c ⟨hc, hc1, hc2⟩ => ?_
  simp only at hc1 hc2
  rw [s_encode _ (small_s ho) fu hf]
  refine so_bind (P := fun x => x = encode o.1 c.1) (so_some rfl) fun x hx => ?_
  refine so_bind (P := fun (b : Bool × Int) => (b.1 = false → x.2 = true) ∧ 0 ≤ b.2 ∧ b.2 ≤ 100000) (so_ite (fun _ => so_some ⟨nofun, by simp only; omega, by simp only; omega⟩) fun hn => ?_) fun b ⟨hb1, hb2, hb3⟩ => ?_
  · refine so_bind (pick_ok _ _ hb (by simp only; omega) (by unfold PM; simp only; omega)) fun a ⟨ha, _, _⟩ => so_some ⟨fun _ => by simpa using hn, ?_, ?_⟩ <;> simp only at ha ⊢ <;> omega
  refine so_ite (fun _ => so_bind (l1Values_ok _ hb (by simp only; omega) (by unfold PM; simp only; omega)) fun v hv => so_assert ⟨ho, hv⟩) fun hn => ?_
  have hx2 : x.2 = true := hb1 (by simpa using hn)
  have hl : x.1.length = 12 := by subst hx; exact encode_len _ _ hx2
  refine so_bind (pick_ok _ _ hb (by simp only; omega) (by unfold PM; simp only; omega)) fun a ⟨ha, _, _⟩ => so_ite (fun _ => ?_) fun _ => so_assert ⟨ho, by unfold sBools; omega⟩
  simp only at ha
  refine so_bind (pick_ok _ _ hb (by simp only; omega) (by unfold PM; simp only; omega)) fun q ⟨hq, hq0, hq1⟩ => ?_
  refine so_bind (so_idx (P := fun _ => True) hq0 (by have := hq1 (by omega); omega) fun _ _ => trivial) fun z _ => so_assert ⟨ho, by unfold sBools; rw [List.length_set]; omega⟩
theorem cpInts_self (a : List Int) : l_cpInts a a = some true := by
  unfold l_cpInts
  rw [if_neg (by simp)]
  rw [range_allI (fun _ _ => true) false a]
  · have : allFrom (fun (_ : Nat) (_ : Int) => true) a 0 = true := by rw [allFrom_iff]; intros; rfl
    rw [this]; rfl
  · intro i x hx
    show (idx a (i : Int)).bind _ = _
    rw [idx_nat, hx]
    simp
theorem decFrom_spec (m : Model) (values : List Bool) : ∀ (k c : Nat) (out : List Int), (decFrom m values k c out).2 = true → (∀ i, c ≤ i → i < c + k → (onAll m values i).length = 1) ∧ (decFrom m values k c out).1.length = out.length + k ∧
    (∀ i, i < out.length → (decFrom m values k c out).1[i]? = out[i]?) ∧ ∀ i, c ≤ i → i < c + k → (decFrom m values k c out).1[out.length + (i - c)]? = (onAll m values i)[0]?
  | 0, c, out, _ => ⟨fun i h1 h2 => by omega, rfl, fun _ _ => rfl, fun i h1 h2 => by omega⟩
  | k + 1, c, out, h => by
    rw [decFrom] at h ⊢
    by_cases hc : (onAll m values c).length = 1
    · rw [if_pos hc] at h ⊢
      obtain ⟨h1, h2, h3, h4⟩ := decFrom_spec m values k (c + 1) _ h
      have hlen : (out ++ onAll m values c).length = out.length + 1 := by rw [List.length_append, hc]
      refine ⟨fun i hi1 hi2 => ?_, by rw [h2, hlen]; omega, fun i hi => by rw [h3 i (by omega), List.getElem?_append_left hi], fun i hi1 hi2 => ?_⟩
      · by_cases e : i = c
        · rw [e]; exact hc
        · exact h1 i (by omega) (by omega)
      · by_cases e : i = c
        · subst e
          rw [show out.length + (i - i) = out.length from by omega, h3 out.length (by omega), List.getElem?_append_right (Nat.le_refl _), Nat.sub_self]
        · have := h4 i (by omega) (by omega)
          rw [hlen] at this
          rwa [show out.length + (i - c) = out.length + 1 + (i - (c + 1)) from by omega]
    · rw [if_neg hc] at h; cases h
theorem mem_onTo {m : Model} {values : List Bool} {c k : Nat} {x : Int} : x ∈ onTo m values c k ↔ ∃ v : Nat, v < k ∧ isOn m values c v = true ∧ (v : Int) = x := by
  unfold onTo
  simp only [List.mem_map, List.mem_filter, List.mem_range]
  constructor
  · rintro ⟨v, ⟨h1, h2⟩, h3⟩; exact ⟨v, h1, h2, h3⟩
  · rintro ⟨v, h1, h2, h3⟩; exact ⟨v, ⟨h1, h2⟩, h3⟩
theorem encL_get (m : Model) (cells : List Int) (p : Nat) (hp : p < 12) : ∀ n, (encL m cells n).getD p false = true ↔ ∃ i, i < n ∧ (boolVar m i (cells.getD i 0) - 1).toNat = p
  | 0 => by
    rw [encL, List.getD_eq_getElem?_getD, List.getElem?_replicate, if_pos hp]
    constructor
    · intro h; cases h
    · rintro ⟨i, hi, _⟩; omega
  | n + 1 => by
    have ih := encL_get m cells p hp n
    rw [encL, List.getD_eq_getElem?_getD, List.getElem?_set]
    rw [List.getD_eq_getElem?_getD] at ih
    by_cases e : (boolVar m n (cells.getD n 0) - 1).toNat = p
    · rw [if_pos e, if_pos (by rw [encL_len]; omega)]
      exact ⟨fun _ => ⟨n, by omega, e⟩, fun _ => rfl⟩
    · rw [if_neg e, ih]
      constructor
      · rintro ⟨i, hi, h⟩; exact ⟨i, by omega, h⟩
      · rintro ⟨i, hi, h⟩
        refine ⟨i, ?_, h⟩
        by_cases en : i = n
        · subst en; exact absurd h e
        · omega
theorem gsum_find (m : Model) (p : Int) (hp : 0 ≤ p) : ∀ n, n ≤ m.sizes.length → p < gsum (m.sizes.take n) → ∃ c, c < n ∧ gsum (m.sizes.take c) ≤ p ∧ p < gsum (m.sizes.take (c + 1))
  | 0, _, h => by simp [gsum] at h; omega
  | n + 1, hn, h => by
    by_cases hc : gsum (m.sizes.take n) ≤ p
    · exact ⟨n, by omega, hc, h⟩
    · obtain ⟨c, h1, h2, h3⟩ := gsum_find m p hp n (by omega) (by omega)
      exact ⟨c, by omega, h2, h3⟩
theorem FnDecodeValues_ok (code : List UInt8) (g0 : code.length ≤ 9223372036854775807 ∧ ∀ x ∈ code, True) : ∃ fu, l_FnDecodeValues fu code = some true := by
  refine ⟨FU, ?_⟩
  unfold l_FnDecodeValues
  split
  · rfl
  refine anyB_intro (drawDecode_ok code FU (Nat.le_refl _)) (o0 := (⟨[], []⟩, [])) ⟨s0, by simp [sBools]⟩ fun x hx => ?_
  obtain ⟨m, values⟩ := x
  simp only at hx ⊢
  have hs := small_s hx.1
  rw [i_decode m hs, s_decode m hs FU (Nat.le_refl _)]
  simp only [Option.bind_some, cpInts_self, bne_self_eq_false, Bool.not_true, Bool.false_eq_true, if_false, Bool.false_or, beq_self_eq_true, if_true]
  cases hd : (decode m values).2 with
  | false => rfl
  | true =>
    simp only [Bool.not_true, Bool.false_eq_true, if_false]
    have hok : okModel m = true ∧ values.length = 12 ∧ (decFrom m values m.sizes.length 0 []).2 = true ∧ (decode m values).1 = (decFrom m values m.sizes.length 0 []).1 := by
      unfold decode at hd ⊢
      split at hd
      · rename_i h
        simp only [Bool.and_eq_true, beq_iff_eq] at h
        refine ⟨h.1, by omega, hd, ?_⟩
        rw [if_pos (by simp only [Bool.and_eq_true, beq_iff_eq]; exact h)]
      · cases hd
    obtain ⟨hm, hv, hdf, hde⟩ := hok
    obtain ⟨h1, h2, _, h4⟩ := decFrom_spec m values m.sizes.length 0 [] hdf
    rw [← hde] at h2 h4
    generalize hC : (decode m values).1 = cells at *
    simp only [List.length_nil, Nat.zero_add, Nat.sub_zero] at h1 h2 h4
    obtain ⟨p1, p5, pa, _, pg, _⟩ := okModel_parts hm
    -- each cell's value
    have hcell : ∀ c (hc : c < m.sizes.length), ∃ v : Nat, (v : Int) ≤ m.sizes[c] ∧ cells[c]? = some (v : Int) ∧ onAll m values c = [(v : Int)] := by
      intro c hc
      obtain ⟨y, hy⟩ := List.length_eq_one_iff.1 (h1 c (Nat.zero_le _) hc)
      have hmem : y ∈ onAll m values c := by rw [hy]; simp
      rw [onAll_eq (List.getElem?_eq_getElem hc)] at hmem
      obtain ⟨v, hv1, hv2, rfl⟩ := mem_onTo.1 hmem
      have hsz := sizes_get pa hc
      refine ⟨v, by omega, ?_, hy⟩
      rw [h4 c (Nat.zero_le _) hc, hy]
      rfl
    have hci : cellsIn m cells = true := by
      rw [cellsIn_iff]
      refine ⟨h2, fun i x hx => ?_⟩
      have hi : i < m.sizes.length := by have := (List.getElem?_eq_some_iff.1 hx).1; omega
      obtain ⟨v, hv1, hv2, _⟩ := hcell i hi
      rw [hv2] at hx
      injection hx with hx
      subst hx
      rw [List.getD_eq_getElem?_getD, List.getElem?_eq_getElem hi]
      exact ⟨Int.natCast_nonneg v, hv1⟩
    have hcC : okCells m cells = true := by unfold okCells; rw [hm, hci]; rfl
    have henc : encode m cells = (encL m cells cells.length, true) := by unfold encode; rw [if_pos hcC]
    have hgetD : ∀ c (v : Nat), cells[c]? = some (v : Int) → cells.getD c 0 = (v : Int) := fun c v h => by rw [List.getD_eq_getElem?_getD, h]; rfl
    -- the encoding has the same truth values
    have hon : ∀ c (hc : c < m.sizes.length) (w : Nat), (w : Int) ≤ m.sizes[c] → isOn m (encL m cells cells.length) c w = isOn m values c w := by
      intro c hc w hw
      have hb := boolVar_range hm hc ⟨Int.natCast_nonneg w, hw⟩
      obtain ⟨v, hv1, hv2, hv3⟩ := hcell c hc
      have e1 : isOn m values c w = true ↔ w = v := by
        have : (w : Int) ∈ onAll m values c ↔ isOn m values c w = true := by
          rw [onAll_eq (List.getElem?_eq_getElem hc), mem_onTo]
          constructor
          · rintro ⟨u, _, h, hu⟩
            obtain rfl : u = w := by omega
            exact h
          · intro h
            exact ⟨w, by omega, h, rfl⟩
        rw [← this, hv3]
        simp
        omega
      have e2 : isOn m (encL m cells cells.length) c w = true ↔ w = v := by
        unfold isOn
        rw [encL_get m cells _ (by omega)]
        constructor
        · rintro ⟨i, hi, he⟩
          have hi2 : i < m.sizes.length := by omega
          obtain ⟨u, hu1, hu2, _⟩ := hcell i hi2
          rw [hgetD i u hu2] at he
          have hbi := boolVar_range hm hi2 ⟨Int.natCast_nonneg u, hu1⟩
          obtain ⟨rfl, h3⟩ := bv_inj pa hi2 hc (Int.natCast_nonneg u) hu1 (Int.natCast_nonneg w) hw (by omega)
          rw [hu2] at hv2
          injection hv2 with hv2
          omega
        · rintro rfl
          exact ⟨c, by omega, by rw [hgetD c w hv2]⟩
      rw [Bool.eq_iff_iff, e1, e2]
    have hval : ∀ p : Nat, (p : Int) < gsum m.sizes → (encL m cells cells.length).getD p false = values.getD p false := by
      intro p hp
      obtain ⟨c, hc, q1, q2⟩ := gsum_find m p (Int.natCast_nonneg p) m.sizes.length (Nat.le_refl _) (by rwa [List.take_length])
      have hg := gsum_next m.sizes c hc
      have hsz := sizes_get pa hc
      obtain ⟨w, hw⟩ : ∃ w : Nat, (w : Int) = p - gsum (m.sizes.take c) := ⟨((p : Int) - gsum (m.sizes.take c)).toNat, by omega⟩
      have := hon c hc w (by omega)
      unfold isOn boolVar at this
      rwa [show (1 + (w : Int) + gsum (m.sizes.take c) - 1).toNat = p from by omega] at this
    rw [i_encode m hs, henc]
    simp only [Option.bind_some]
    have gb := gsum_bound _ pa
    have hl12 := encL_len m cells cells.length
    obtain ⟨j, hj, hj2⟩ := so_while (b := l_FnDecodeValues_b1 (m, values) (encL m cells cells.length, true)) (fun n (s : Int) => 0 ≤ s ∧ s ≤ gsum m.sizes ∧ (n : Int) = gsum m.sizes - s) (fun _ => True) (gsum m.sizes).toNat 0 FU (by unfold FU; omega) ⟨by omega, by omega, by omega⟩ (by
      intro n s ⟨hI1, hI2, hI3⟩
      unfold l_FnDecodeValues_b1
      simp only
      rw [i_free m hs]
      have e3 : freeVars m = 12 - gsum m.sizes := by unfold freeVars; rw [hm]; rfl
      rw [e3]
      have e4 : i64 (12 - (12 - gsum m.sizes)) = gsum m.sizes := by rw [i64_id (by omega) (by omega)]; omega
      simp only [Option.bind_some, e4, Bool.and_true]
      refine so_ite (fun hc => ?_) fun _ => so_some (.inr ⟨_, rfl, trivial⟩)
      have hc := of_decide_eq_true hc
      have a1 : s.toNat < (encL m cells cells.length).length := by omega
      have a2 : s.toNat < values.length := by omega
      rw [idx_get hI1 a1, idx_get hI1 a2]
      have := hval s.toNat (by omega)
      rw [List.getD_eq_getElem?_getD, List.getD_eq_getElem?_getD, List.getElem?_eq_getElem a1, List.getElem?_eq_getElem a2] at this
      simp only [Option.getD_some] at this
      simp only [Option.bind_some]
      rw [this, if_neg (by simp), i64_id (by omega) (by omega)]
      exact so_some (.inl ⟨_, n - 1, rfl, by omega, by omega, by omega, by omega⟩))
    obtain ⟨s', rfl, _⟩ := hj2
    rw [hj]
    simp only [Option.bind_some]
    rw [i_decode m hs]
    have honA : ∀ c, c < m.sizes.length → onAll m (encL m cells cells.length) c = onAll m values c := by
      intro c hc
      rw [onAll_eq (List.getElem?_eq_getElem hc), onAll_eq (List.getElem?_eq_getElem hc)]
      unfold onTo
      congr 1
      refine List.filter_congr fun v hv => ?_
      rw [List.mem_range] at hv
      have hsz := sizes_get pa hc
      exact hon c hc v (by omega)
    have hsame : ∀ k c out, c + k ≤ m.sizes.length → decFrom m (encL m cells cells.length) k c out = decFrom m values k c out := by
      intro k
      induction k with
      | zero => intro c out _; rfl
      | succ k ih =>
        intro c out hc
        rw [decFrom, decFrom, honA c (by omega), ih _ _ (by omega)]
    have hdec : decode m (encL m cells cells.length) = (cells, true) := by
      unfold decode
      rw [if_pos (by simp only [Bool.and_eq_true, beq_iff_eq]; exact ⟨hm, by omega⟩), hsame _ _ _ (by omega)]
      exact Prod.ext hde.symm hdf
    rw [hdec]
    simp only [Option.bind_some, Bool.and_self, if_true, cpInts_self]
end Go.L
