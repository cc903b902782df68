/- Trimming, on both sides. -/
import Derived.Test.YtiodhgbfceahfaaGreatK38
namespace Go.L
open Go Go.E
set_option linter.unusedVariables false
set_option linter.unusedSimpArgs false
set_option maxRecDepth 100000
/-- what a refuted run gives for trimming -/
structure Trim (list : List Con) (steps : List Step) : Prop where
  ref : refB list steps = true
  fits : fitsB list steps = true
  neg : (runL list steps).2 < 0
  at0 : 0 ≤ falseAt (runL list steps).1
  at1 : falseAt (runL list steps).1 < ((runL list steps).1.list.length : Int)
  len : (runL list steps).1.list.length = list.length + (byL steps).length
  refs : ∀ j s, (byL steps)[j]? = some s → RefOK (list.length + j) s
  n400 : list.length ≤ 400
  m1000 : steps.length ≤ 1000
  db : OkDb (runL list steps).1
theorem trim_of {list : List Con} {steps : List Step} (h : refB list steps = true) : Trim list steps := by
  obtain ⟨h1, h2, h3⟩ := refB_iff.1 h
  obtain ⟨q1, q2, q3⟩ := fits_parts h1
  obtain ⟨r1, r2⟩ := run_refs steps (initD list) 0 h2
  refine ⟨h, h1, h2, h3, ?_, r1, r2, q2, q3, (runL_ok h1).1⟩
  unfold falseAt at h3 ⊢
  rcases fAt_spec (runL list steps).1.list (runL list steps).1.gone 0 with h | ⟨k, hk, c, hc, _, _⟩
  · omega
  · have := (List.getElem?_eq_some_iff.1 hc).1
    omega
theorem byL_le (ss : List Step) : (byL ss).length ≤ ss.length := List.length_filter_le _ _
def start (list : List Con) (steps : List Step) : List Bool := (List.replicate (runL list steps).1.list.length false).set (falseAt (runL list steps).1).toNat true
theorem start_len (list : List Con) (steps : List Step) : (start list steps).length = (runL list steps).1.list.length := by simp [start]
theorem from_loop (steps : List Step) (hl : steps.length ≤ 1000) : rangeL s_TrimProof_b1 steps 0 [] = some (.nx (fromL steps 0)) := by
  have := range_to (b := s_TrimProof_b1) (fun i => fromL (steps.take i) 0) steps (by
    intro i s hs
    have hi := (List.getElem?_eq_some_iff.1 hs).1
    have hf := fromL_len (steps.take i) 0
    have ht : (steps.take i).length = i := by simp; omega
    rw [s_TrimProof_b1, take_snoc hs, fromL_snoc, ht, Nat.zero_add]
    cases s.kind != 8 with
    | true => rw [if_pos rfl, app_le (by simp; omega)]; rfl
    | false => simp)
  simpa [fromL] using this
theorem by_loop (steps : List Step) (hl : steps.length ≤ 1000) : rangeL i_needed_b1 steps 0 [] = some (.nx (byL steps)) := by
  have := range_to (b := i_needed_b1) (fun i => byL (steps.take i)) steps (by
    intro i s hs
    have hi := (List.getElem?_eq_some_iff.1 hs).1
    have hf := byL_le (steps.take i)
    have ht : (steps.take i).length = i := by simp; omega
    have e : byL (steps.take i ++ [s]) = byL (steps.take i) ++ (if s.kind != 8 then [s] else []) := by
      unfold byL
      rw [List.filter_append, List.filter_cons]
      rfl
    rw [i_needed_b1, take_snoc hs, e]
    cases s.kind != 8 with
    | true => rw [if_pos rfl, app_le (by simp; omega)]; rfl
    | false => simp)
  simpa [byL] using this
theorem s_need_round {list : List Con} {steps : List Step} (T : Trim list steps) (j : Nat) (x : List Bool) (hj : j < (byL steps).length) (hx : x.length = list.length + (byL steps).length) :
    s_TrimProof_b2 list steps (fromL steps 0) (x, ((list.length + j : Nat) : Int)) = some (.cont (stepN list.length (byL steps) j x, ((list.length + j : Nat) : Int) - 1)) := by
  have hby := byL_le steps
  have := T.n400
  have := T.m1000
  have hs : (byL steps)[j]? = some (byL steps)[j] := List.getElem?_eq_getElem hj
  obtain ⟨q, hq1, hq2⟩ := fromL_get steps 0 j _ hs
  rw [Nat.zero_add] at hq1
  rw [s_TrimProof_b2, if_pos (decide_eq_true (by omega)), idx_bool (by omega), Option.bind_some, i64_id (n := ((list.length + j : Nat) : Int) - list.length) (by omega) (by omega), i64_id (by omega) (by omega)]
  unfold stepN
  rw [hs]
  simp only
  cases x.getD (list.length + j) false with
  | true =>
    rw [if_pos rfl, show ((list.length + j : Nat) : Int) - list.length = (j : Int) by omega, idx_nat, hq1, Option.bind_some, idx_nat, hq2, Option.bind_some, s_needs (T.refs j _ hs) (by omega) (by omega)]
    rfl
  | false => rfl
theorem i_need_round {list : List Con} {steps : List Step} (T : Trim list steps) (j : Nat) (x : List Bool) (hj : j < (byL steps).length) (hx : x.length = list.length + (byL steps).length) :
    i_needed_b2 list (byL steps) (x, ((list.length + j : Nat) : Int)) = some (.cont (stepN list.length (byL steps) j x, ((list.length + j : Nat) : Int) - 1)) := by
  have hby := byL_le steps
  have := T.n400
  have := T.m1000
  have hs : (byL steps)[j]? = some (byL steps)[j] := List.getElem?_eq_getElem hj
  obtain ⟨⟨k1, k7⟩, ha, hb⟩ := T.refs j _ hs
  rw [i_needed_b2, if_pos (decide_eq_true (by omega)), i64_id (n := ((list.length + j : Nat) : Int) - list.length) (by omega) (by omega), show ((list.length + j : Nat) : Int) - list.length = (j : Int) by omega, idx_nat, hs, Option.bind_some, i_ref, Option.bind_some, idx_bool (by omega), Option.bind_some, i64_id (by omega) (by omega)]
  unfold stepN
  rw [hs]
  simp only
  generalize (byL steps)[j] = s at *
  cases x.getD (list.length + j) false with
  | false => rfl
  | true =>
    simp only [Bool.not_true, Bool.false_eq_true, if_false, if_true]
    unfold markN refersB
    by_cases h7 : s.kind = 7
    · have e : cntF 0 ((list.length + j : Nat) : Int) = some (list.length + j) := cntF_nat (by omega)
      rw [e, Option.bind_some, fill_loop (b := i_needed_b3) (fun _ _ => rfl) (list.length + j) x (by omega)]
      simp [h7]
    · by_cases h1 : s.kind = 1
      · obtain ⟨a0, a1⟩ := ha (by omega)
        obtain ⟨b0, b1⟩ := hb h1
        have e1 := idx_b (gs := x) a0 (by omega)
        have e2 := idx_b (gs := x.set s.a.toNat true) b0 (by rw [List.length_set]; omega)
        simp [h1, e1, e2]
      · by_cases h6 : s.kind = 6
        · simp [h6]
        · obtain ⟨a0, a1⟩ := ha (by omega)
          have e1 := idx_b (gs := x) a0 (by omega)
          have : s.kind = 2 ∨ s.kind = 3 ∨ s.kind = 4 ∨ s.kind = 5 := by omega
          rcases this with h | h | h | h <;> simp [h, e1]
theorem need0_len {list : List Con} {steps : List Step} (T : Trim list steps) : (need0 list steps).length = list.length + (byL steps).length := by
  have := T.len
  unfold need0
  rw [needG_len _ _ _ _ (by simp; omega)]
  simp
  omega
theorem s_need_loop {list : List Con} {steps : List Step} (T : Trim list steps) (fu : Nat) (hf : FU ≤ fu) : whileL (s_TrimProof_b2 list steps (fromL steps 0)) fu (start list steps, ((runL list steps).1.list.length : Int) - 1) = some (.nx (need0 list steps, (list.length : Int) - 1)) := by
  have hby := byL_le steps
  have := T.n400
  have := T.m1000
  have h := need_while (b := s_TrimProof_b2 list steps (fromL steps 0)) list.length (byL steps) (list.length + (byL steps).length) (s_need_round T) (fun x => by rw [s_TrimProof_b2, if_neg (by simp; omega)]) (Nat.le_refl _) (byL steps).length fu (start list steps) (Nat.le_refl _) (by rw [start_len, T.len]) (by unfold FU at hf; omega)
  rw [T.len, h]
  rfl
theorem i_need_loop {list : List Con} {steps : List Step} (T : Trim list steps) (fu : Nat) (hf : FU ≤ fu) : whileL (i_needed_b2 list (byL steps)) fu (start list steps, ((runL list steps).1.list.length : Int) - 1) = some (.nx (need0 list steps, (list.length : Int) - 1)) := by
  have hby := byL_le steps
  have := T.n400
  have := T.m1000
  have h := need_while (b := i_needed_b2 list (byL steps)) list.length (byL steps) (list.length + (byL steps).length) (i_need_round T) (fun x => by rw [i_needed_b2, if_neg (by simp; omega)]) (Nat.le_refl _) (byL steps).length fu (start list steps) (Nat.le_refl _) (by rw [start_len, T.len]) (by unfold FU at hf; omega)
  rw [T.len, h]
  rfl
def placeL (n : Nat) (x : List Bool) (k : Nat) : List Int := (List.range k).map fun a => (pl n x a : Int)
theorem placeL_succ (n : Nat) (x : List Bool) (k : Nat) : placeL n x (k + 1) = placeL n x k ++ [(pl n x k : Int)] := by unfold placeL; rw [List.range_succ, List.map_append]; rfl
theorem placeL_idx (n : Nat) (x : List Bool) {k : Nat} {a : Int} (h0 : 0 ≤ a) (h1 : a < (k : Int)) : idx (placeL n x k) a = some (pl n x a.toNat : Int) := by
  obtain ⟨m, rfl⟩ : ∃ m : Nat, a = (m : Int) := ⟨a.toNat, by omega⟩
  rw [idx_nat]
  unfold placeL
  rw [List.getElem?_map, List.getElem?_range (by omega)]
  simp
theorem at_loop {list : List Con} {steps : List Step} (T : Trim list steps) : rangeL (s_TrimProof_b3 list (need0 list steps)) (runL list steps).1.list 0 ([], 0) = some (.nx (placeL list.length (need0 list steps) (runL list steps).1.list.length, (pl list.length (need0 list steps) (runL list steps).1.list.length : Int))) := by
  have hx := need0_len T
  have hl := T.len
  have hby := byL_le steps
  have := T.n400
  have := T.m1000
  have h := range_to (b := s_TrimProof_b3 list (need0 list steps)) (fun i => (placeL list.length (need0 list steps) i, (pl list.length (need0 list steps) i : Int))) (runL list steps).1.list (by
    intro i c hc
    have hi := (List.getElem?_eq_some_iff.1 hc).1
    have hp := pl_le list.length (need0 list steps) i
    rw [s_TrimProof_b3, app_le (by simp [placeL]; omega), Option.bind_some, placeL_succ, pl_succ, kp]
    by_cases hn : i < list.length
    · have : decide ((i : Int) < (list.length : Int)) = true := by simp; omega
      rw [this]
      simp [hn]
      rw [i64_id (by omega) (by omega)]
    · have : decide ((i : Int) < (list.length : Int)) = false := by simp; omega
      rw [this, idx_bool (by omega)]
      simp only [hn, decide_false, Bool.false_or, Bool.false_eq_true, if_false, Option.bind_some]
      cases (need0 list steps).getD i false with
      | true => rw [if_pos rfl, i64_id (by omega) (by omega)]; simp
      | false => simp)
  exact h
theorem ren_eq {n : Nat} {x : List Bool} {k K : Nat} {s : Step} (hr : RefOK k s) (hk : k ≤ K) :
    (if ((s.kind != 6) && (s.kind != 7)) then ((idx (placeL n x K) s.a).bind fun y => some y) else (some s.a) : Option Int) = some (renS n x s).a ∧
    (if (s.kind == 1) then ((idx (placeL n x K) s.b).bind fun y => some y) else (some s.b) : Option Int) = some (renS n x s).b := by
  obtain ⟨⟨k1, k7⟩, ha, hb⟩ := hr
  unfold renS
  constructor
  · by_cases h : s.kind = 6 ∨ s.kind = 7
    · rcases h with h | h <;> simp [h]
    · obtain ⟨a0, a1⟩ := ha (by omega)
      rw [placeL_idx n x a0 (by omega)]
      have h6 : s.kind ≠ 6 := by omega
      have h7 : s.kind ≠ 7 := by omega
      simp [h6, h7]
  · by_cases h : s.kind = 1
    · obtain ⟨b0, b1⟩ := hb h
      rw [placeL_idx n x b0 (by omega)]
      simp [h]
    · simp [h]
theorem out_loop {list : List Con} {steps : List Step} (T : Trim list steps) (hs : lens steps) (fu : Nat) (hf : FU ≤ fu) : whileL (s_TrimProof_b4 list steps (runL list steps) (fromL steps 0) (need0 list steps) (placeL list.length (need0 list steps) (runL list steps).1.list.length)) fu ([], (list.length : Int)) = some (.nx (trimR list.length (need0 list steps) (byL steps) list.length, ((runL list steps).1.list.length : Int))) := by
  have hx := need0_len T
  have hl := T.len
  have hby := byL_le steps
  have := T.n400
  have := T.m1000
  obtain ⟨j, hj, hQ⟩ := while_inv (b := s_TrimProof_b4 list steps (runL list steps) (fromL steps 0) (need0 list steps) (placeL list.length (need0 list steps) (runL list steps).1.list.length))
    (fun m (s : List Step × Int) => ∃ i : Nat, i + m = (byL steps).length ∧ s = (trimR list.length (need0 list steps) ((byL steps).take i) list.length, ((list.length + i : Nat) : Int)))
    (fun j => j = .nx (trimR list.length (need0 list steps) (byL steps) list.length, ((runL list steps).1.list.length : Int))) (fun m s hI => by
      obtain ⟨i, hi, rfl⟩ := hI
      cases m with
      | zero =>
        have hi : i = (byL steps).length := by omega
        subst hi
        refine ⟨_, by rw [s_TrimProof_b4, if_neg (by simp; omega)], ?_⟩
        show Jn.nx _ = _
        rw [List.take_length, hl]
      | succ m =>
        have hil : i < (byL steps).length := by omega
        have hsi : (byL steps)[i]? = some (byL steps)[i] := List.getElem?_eq_getElem hil
        obtain ⟨q, hq1, hq2⟩ := fromL_get steps 0 i _ hsi
        rw [Nat.zero_add] at hq1
        have hgl : (byL steps)[i].given.terms.length ≤ 4000000 := hs _ (List.mem_of_getElem? hq2)
        have hr := T.refs i _ hsi
        have htl := trimR_len list.length (need0 list steps) ((byL steps).take i) list.length
        have htk : ((byL steps).take i).length = i := by simp; omega
        refine ⟨.cont (trimR list.length (need0 list steps) ((byL steps).take (i + 1)) list.length, ((list.length + (i + 1) : Nat) : Int)), ?_, m, by omega, i + 1, by omega, rfl⟩
        rw [s_TrimProof_b4, if_pos (by simp; omega), idx_bool (by omega), Option.bind_some, take_snoc hsi, trimR_snoc, htk, i64_id (n := ((list.length + i : Nat) : Int) - list.length) (by omega) (by omega), show ((list.length + i : Nat) : Int) - list.length = (i : Int) by omega, i64_id (by omega) (by omega)]
        cases (need0 list steps).getD (list.length + i) false with
        | true =>
          obtain ⟨e1, e2⟩ := ren_eq (n := list.length) (x := need0 list steps) (K := (runL list steps).1.list.length) hr (by omega)
          rw [if_pos rfl, if_pos rfl, idx_nat, hq1, Option.bind_some, idx_nat, hq2, Option.bind_some, e1, Option.bind_some, e2, Option.bind_some, copy_eq _ hgl, Option.bind_some, app_le (by simp; omega)]
          rfl
        | false => rw [if_neg (by simp), if_neg (by simp), List.append_nil]; simp only [Option.bind_some]; congr 3)
    fu (byL steps).length ([], (list.length : Int)) ⟨0, by omega, by simp [trimR]⟩ (by unfold FU at hf; omega)
  rw [hj, hQ]
theorem s_trim (fu : Nat) (hf : FU ≤ fu) {list : List Con} {steps : List Step} (hl : lensC list) (hs : lens steps) : s_TrimProof fu list steps = some (trimP list steps) := by
  unfold s_TrimProof trimP
  rw [s_refB fu hf hl hs, Option.bind_some]
  cases hr : refB list steps with
  | false => rfl
  | true =>
    have T := trim_of hr
    have hby := byL_le steps
    have := T.n400
    have := T.m1000
    have hlen := T.len
    have h0 := T.at0
    have h1 := T.at1
    rw [s_run fu hf T.fits hs]
    simp only [Bool.not_true, Bool.false_eq_true, if_false, Option.bind_some, if_true]
    rw [mkN_le (n := (runL list steps).1.list.length) false (by omega), Option.bind_some, s_falseAt T.db, Option.bind_some, idx_b (gs := List.replicate (runL list steps).1.list.length false) h0 (by simpa using h1), Option.bind_some, from_loop steps T.m1000, Option.bind_some]
    simp only
    rw [i64_id (by omega) (by omega)]
    have := s_need_loop T fu hf
    unfold start at this
    rw [this, Option.bind_some]
    simp only
    rw [at_loop T, Option.bind_some]
    simp only
    rw [out_loop T hs fu hf]
    rfl
theorem i_needed_eq (fu : Nat) (hf : FU ≤ fu) (list : List Con) (steps : List Step) : i_needed fu list steps = some (if refB list steps then (need0 list steps, true) else ([], false)) := by
  unfold i_needed
  rw [i_refuting_eq fu hf, Option.bind_some]
  cases hr : refB list steps with
  | false =>
    have : (refL list steps).2 < 0 := by unfold refB at hr; simpa using hr
    simp [this]
  | true =>
    have T := trim_of hr
    have hby := byL_le steps
    have := T.n400
    have := T.m1000
    have hlen := T.len
    have h0 := T.at0
    have h1 := T.at1
    have e : refL list steps = (some (runL list steps).1, falseAt (runL list steps).1) := by
      unfold refL
      rw [T.fits]
      simp [T.neg]
    rw [e]
    have hn : ¬ falseAt (runL list steps).1 < 0 := by omega
    simp only [hn, decide_false, Bool.false_eq_true, if_false, if_true]
    rw [by_loop steps T.m1000, Option.bind_some]
    simp only [Option.bind_some]
    rw [mkN_le (n := (runL list steps).1.list.length) false (by omega), Option.bind_some, idx_b (gs := List.replicate (runL list steps).1.list.length false) h0 (by simpa using h1), Option.bind_some, i64_id (by omega) (by omega)]
    have := i_need_loop T fu hf
    unfold start at this
    rw [this]
    rfl
theorem i_place0 (list : List Con) (x : List Bool) (hl : list.length ≤ 400) : rangeL i_TrimProof_b1 list 0 [] = some (.nx (placeL list.length x list.length)) := by
  have := range_to (b := i_TrimProof_b1) (fun i => placeL list.length x i) list (by
    intro i c hc
    have hi := (List.getElem?_eq_some_iff.1 hc).1
    rw [i_TrimProof_b1, app_le (by simp [placeL]; omega), placeL_succ, pl_small _ _ _ (by omega)]
    rfl)
  exact this
theorem i_out_loop {list : List Con} {steps : List Step} (T : Trim list steps) (hs : lens steps) : ∀ (ss : List Step) (i j : Nat), (byL steps).drop j = byL ss → (∀ s ∈ ss, s ∈ steps) → j ≤ (byL steps).length →
    rangeL (i_TrimProof_b2 list (need0 list steps, true)) ss i (placeL list.length (need0 list steps) (list.length + j), trimR list.length (need0 list steps) ((byL steps).take j) list.length) =
      some (.nx (placeL list.length (need0 list steps) (list.length + (byL steps).length), trimR list.length (need0 list steps) (byL steps) list.length))
  | [], i, j, hd, _, hj => by
    have : (byL steps).length ≤ j := by
      have := congrArg List.length hd
      simp [byL] at this
      unfold byL
      omega
    obtain rfl : j = (byL steps).length := by omega
    simp [rangeL]
  | s :: ss, i, j, hd, hm, hj => by
    have hx := need0_len T
    have hl := T.len
    have hby := byL_le steps
    have := T.n400
    have := T.m1000
    show (i_TrimProof_b2 list (need0 list steps, true) i s _).bind _ = _
    rw [i_TrimProof_b2]
    by_cases h8 : s.kind = 8
    · have e : byL (s :: ss) = byL ss := by unfold byL; rw [List.filter_cons, h8]; rfl
      rw [e] at hd
      simpa [h8] using i_out_loop T hs ss (i + 1) j hd (fun x hx => hm x (by simp [hx])) hj
    · have h8' : (s.kind == 8) = false := by simpa using h8
      have e : byL (s :: ss) = s :: byL ss := by
        have : (s.kind != 8) = true := by simpa using h8
        unfold byL; rw [List.filter_cons, this]; rfl
      rw [e] at hd
      have hjl : j < (byL steps).length := by
        apply Classical.byContradiction
        intro hn
        rw [List.drop_eq_nil_of_le (by omega)] at hd
        cases hd
      have hsj : (byL steps)[j]? = some s := by
        have := drop_idx hd
        rwa [idx_nat] at this
      have hr := T.refs j _ hsj
      have hp := trimR_pl list.length (need0 list steps) ((byL steps).take j) list.length (Nat.le_refl _)
      have htk : ((byL steps).take j).length = j := by simp; omega
      rw [pl_small _ _ _ (Nat.le_refl _), htk] at hp
      have htl := trimR_len list.length (need0 list steps) ((byL steps).take j) list.length
      have hpl : (placeL list.length (need0 list steps) (list.length + j)).length = list.length + j := by simp [placeL]
      have hgl := hs s (hm s (by simp))
      simp only [h8', Bool.false_eq_true, if_false]
      rw [hpl, idx_bool (by omega), Option.bind_some, app_le (by simp [placeL]; omega), Option.bind_some, i64_id (by omega) (by omega), show (list.length : Int) + ((trimR list.length (need0 list steps) ((byL steps).take j) list.length).length : Int) = (pl list.length (need0 list steps) (list.length + j) : Int) by omega, ← placeL_succ]
      have ih := i_out_loop T hs ss (i + 1) (j + 1) (drop_next hd) (fun x hx => hm x (by simp [hx])) (by omega)
      rw [take_snoc hsj, trimR_snoc, htk, ← Nat.add_assoc] at ih
      cases hn : (need0 list steps).getD (list.length + j) false with
      | false =>
        rw [hn] at ih
        simpa using ih
      | true =>
        rw [hn] at ih
        obtain ⟨e1, e2⟩ := ren_eq (n := list.length) (x := need0 list steps) (K := list.length + j + 1) hr (by omega)
        obtain ⟨⟨k1, k7⟩, ha, hb⟩ := hr
        have r1 : (if decide ((refersB s.kind).1 > 0) then ((idx (placeL list.length (need0 list steps) (list.length + j + 1)) s.a).bind fun y => some y) else (some s.a) : Option Int) = some (renS list.length (need0 list steps) s).a := by
          rw [← e1]
          unfold refersB
          have : s.kind = 1 ∨ s.kind = 2 ∨ s.kind = 3 ∨ s.kind = 4 ∨ s.kind = 5 ∨ s.kind = 6 ∨ s.kind = 7 := by omega
          rcases this with h | h | h | h | h | h | h <;> simp [h]
        have r2 : (if decide ((refersB s.kind).1 > 1) then ((idx (placeL list.length (need0 list steps) (list.length + j + 1)) s.b).bind fun y => some y) else (some s.b) : Option Int) = some (renS list.length (need0 list steps) s).b := by
          rw [← e2]
          unfold refersB
          have : s.kind = 1 ∨ s.kind = 2 ∨ s.kind = 3 ∨ s.kind = 4 ∨ s.kind = 5 ∨ s.kind = 6 ∨ s.kind = 7 := by omega
          rcases this with h | h | h | h | h | h | h <;> simp [h]
        simp only [Bool.not_true, Bool.false_eq_true, if_false]
        rw [i_ref, Option.bind_some, r1, Option.bind_some, r2, Option.bind_some, i_own _ hgl, Option.bind_some, app_le (by simp; omega)]
        exact ih
theorem i_trim (fu : Nat) (hf : FU ≤ fu) {list : List Con} {steps : List Step} (hs : lens steps) : i_TrimProof fu list steps = some (trimP list steps) := by
  unfold i_TrimProof trimP
  rw [i_needed_eq fu hf, Option.bind_some]
  cases hr : refB list steps with
  | false => rfl
  | true =>
    have T := trim_of hr
    simp only [if_true, Bool.not_true, Bool.false_eq_true, if_false]
    rw [i_place0 list (need0 list steps) T.n400, Option.bind_some]
    simp only
    have := i_out_loop T hs steps 0 0 (by simp) (fun _ h => h) (by omega)
    simp only [Nat.add_zero, List.take_zero, trimR] at this
    rw [this]
    rfl
end Go.L
