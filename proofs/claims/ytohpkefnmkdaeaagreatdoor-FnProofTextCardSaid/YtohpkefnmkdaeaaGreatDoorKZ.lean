/- The plain law: what the functions compute, and that it answers as the statement says. -/
import Derived.Test.YtohpkefnmkdaeaaGreatDoorD1
import Derived.Test.YtohpkefnmkdaeaaGreatDoorKA
namespace Go.L
open Go Go.E
set_option linter.unusedSimpArgs false
set_option linter.unusedVariables false
set_option maxRecDepth 100000
theorem idx_ws {ws : List (List UInt8)} {i : Nat} (h : i < ws.length) : idx (ws.map bs) (i : Int) = some (bs (ws.getD i [])) := by
  rw [idx_nat, List.getElem?_map, List.getElem?_eq_getElem h]
  simp [List.getD, List.getElem?_eq_getElem h]
theorem getD_ws {ws : List (List UInt8)} {c : Nat} (hw : ∀ w ∈ ws, w.length ≤ c) (i : Nat) : (ws.getD i []).length ≤ c := by
  unfold List.getD
  cases h : ws[i]? with
  | none => simp
  | some w => exact hw w (List.mem_of_getElem? h)
theorem wordS_not {c : UInt8} (h : c.toNat < 97) (k : Int) : c ∉ wordS k := by
  have h1 : ∀ l : List UInt8, (∀ b ∈ l, 97 ≤ b.toNat) → c ∉ l := fun l hl hm => by have := hl c hm; omega
  unfold wordS
  refine h1 _ ?_
  repeat' split
  all_goals decide
def kS (w : List UInt8) : Int := if w = wordS 1 then 1 else if w = wordS 2 then 2 else if w = wordS 3 then 3 else if w = wordS 4 then 4 else if w = wordS 5 then 5 else if w = wordS 6 then 6 else if w = wordS 7 then 7 else if w = wordS 8 then 8 else 0
theorem kS_word {k : Int} (h : 1 ≤ k ∧ k ≤ 8) : kS (wordS k) = k := by
  rcases (show k = 1 ∨ k = 2 ∨ k = 3 ∨ k = 4 ∨ k = 5 ∨ k = 6 ∨ k = 7 ∨ k = 8 by omega) with e | e | e | e | e | e | e | e <;> subst e <;> decide
theorem kS_range (w : List UInt8) : 0 ≤ kS w ∧ kS w ≤ 8 := by
  unfold kS
  repeat' split
  all_goals omega
theorem kS_iff {w : List UInt8} {k : Int} (h : 1 ≤ k ∧ k ≤ 8) : w = wordS k ↔ kS w = k := by
  constructor
  · rintro rfl; exact kS_word h
  · intro e
    unfold kS at e
    repeat' split at e
    all_goals first | (subst e; assumption) | omega
theorem i_indexS (w : List UInt8) : ∃ x, (i_stepWords).bind (fun x25 => slices_Index_string x25 (bs w)) = some x ∧ max 0 x = kS w := by
  unfold i_stepWords slices_Index_string
  rw [Option.bind_some]
  simp only [rangeL, slices_Index_string_b1, show (⟨#[]⟩ : ByteArray) = bs [] from rfl, show (⟨#[97, 100, 100]⟩ : ByteArray) = bs (wordS 1) from rfl, show (⟨#[109, 117, 108, 116, 105, 112, 108, 121]⟩ : ByteArray) = bs (wordS 2) from rfl,
    show (⟨#[100, 105, 118, 105, 100, 101]⟩ : ByteArray) = bs (wordS 3) from rfl, show (⟨#[115, 97, 116, 117, 114, 97, 116, 101]⟩ : ByteArray) = bs (wordS 4) from rfl, show (⟨#[119, 101, 97, 107, 101, 110]⟩ : ByteArray) = bs (wordS 5) from rfl,
    show (⟨#[108, 105, 116, 101, 114, 97, 108]⟩ : ByteArray) = bs (wordS 6) from rfl, show (⟨#[114, 117, 112]⟩ : ByteArray) = bs (wordS 7) from rfl, show (⟨#[100, 101, 108, 101, 116, 101]⟩ : ByteArray) = bs (wordS 8) from rfl, eq_bs, beq_iff_eq]
  unfold kS
  by_cases h0 : w = []
  · subst h0; exact ⟨0, rfl, by decide⟩
  rw [if_neg h0]
  simp only [Option.bind_some]
  by_cases h1 : w = wordS 1
  · rw [if_pos h1, if_pos h1]; exact ⟨_, rfl, by decide⟩
  rw [if_neg h1, if_neg h1]
  simp only [Option.bind_some]
  by_cases h2 : w = wordS 2
  · rw [if_pos h2, if_pos h2]; exact ⟨_, rfl, by decide⟩
  rw [if_neg h2, if_neg h2]
  simp only [Option.bind_some]
  by_cases h3 : w = wordS 3
  · rw [if_pos h3, if_pos h3]; exact ⟨_, rfl, by decide⟩
  rw [if_neg h3, if_neg h3]
  simp only [Option.bind_some]
  by_cases h4 : w = wordS 4
  · rw [if_pos h4, if_pos h4]; exact ⟨_, rfl, by decide⟩
  rw [if_neg h4, if_neg h4]
  simp only [Option.bind_some]
  by_cases h5 : w = wordS 5
  · rw [if_pos h5, if_pos h5]; exact ⟨_, rfl, by decide⟩
  rw [if_neg h5, if_neg h5]
  simp only [Option.bind_some]
  by_cases h6 : w = wordS 6
  · rw [if_pos h6, if_pos h6]; exact ⟨_, rfl, by decide⟩
  rw [if_neg h6, if_neg h6]
  simp only [Option.bind_some]
  by_cases h7 : w = wordS 7
  · rw [if_pos h7, if_pos h7]; exact ⟨_, rfl, by decide⟩
  rw [if_neg h7, if_neg h7]
  simp only [Option.bind_some]
  by_cases h8 : w = wordS 8
  · rw [if_pos h8, if_pos h8]; exact ⟨_, rfl, by decide⟩
  rw [if_neg h8, if_neg h8]
  exact ⟨_, rfl, by decide⟩
theorem write_parts {q : Step} (h : writeB q = true) : (1 ≤ q.kind ∧ q.kind ≤ 8) ∧
    ((q.kind = 7 ∧ okCon q.given = true ∧ q = ⟨7, 0, 0, q.given⟩) ∨ (q.kind = 6 ∧ okL q.a ∧ q = ⟨6, q.a, 0, ⟨[], 0⟩⟩) ∨
     (q.kind ≠ 7 ∧ q.kind ≠ 6 ∧ (q.kind = 4 ∨ q.kind = 8) ∧ (0 ≤ q.a ∧ q.a ≤ 20000) ∧ q = ⟨q.kind, q.a, 0, ⟨[], 0⟩⟩) ∨
     (q.kind ≠ 7 ∧ q.kind ≠ 6 ∧ ¬ (q.kind = 4 ∨ q.kind = 8) ∧ (0 ≤ q.a ∧ q.a ≤ 20000) ∧ (0 ≤ q.b ∧ q.b ≤ 20000) ∧ q = ⟨q.kind, q.a, q.b, ⟨[], 0⟩⟩)) := by
  obtain ⟨k1, k8, hc⟩ := kinds_of h
  refine ⟨⟨k1, k8⟩, ?_⟩
  have hp : partsB q = true := by unfold writeB at h; rw [Bool.and_eq_true] at h; exact h.1
  unfold partsB at hp
  have hno : noC q.given = true → q.given = ⟨[], 0⟩ := fun h => by rw [← noC_eq] at h; exact of_decide_eq_true h
  obtain ⟨kd, a, b, gv⟩ := q
  simp only at hc hp hno k1 k8 ⊢
  rcases hc with ⟨hk, hc⟩ | ⟨hk, hl⟩ | ⟨⟨hk7, hk6⟩, ha, hb⟩
  · subst hk
    simp at hp
    obtain ⟨rfl, rfl⟩ := hp
    exact .inl ⟨rfl, hc, rfl⟩
  · subst hk
    simp at hp
    obtain ⟨h1, rfl⟩ := hp
    rw [hno h1]
    exact .inr (.inl ⟨rfl, hl, rfl⟩)
  · by_cases h48 : kd = 4 ∨ kd = 8
    · rw [if_neg (by omega), if_pos (by omega)] at hp
      simp at hp
      obtain ⟨h1, rfl⟩ := hp
      rw [hno h1]
      exact .inr (.inr (.inl ⟨hk7, hk6, h48, ha, rfl⟩))
    · rw [if_pos (by omega)] at hp
      rw [hno hp]
      exact .inr (.inr (.inr ⟨hk7, hk6, h48, ha, hb, rfl⟩))
theorem cut_at {c : UInt8} {w r : List UInt8} (h : c ∉ w) : Go.Lib.cut (w ++ c :: r) [c] = (w, r, true) := by
  unfold Go.Lib.cut
  rw [index_cut r h, if_pos (by omega), Int.toNat_natCast, List.take_left' rfl, show w ++ c :: r = (w ++ [c]) ++ r by simp, List.drop_left' (by simp)]
theorem cut_none {c : UInt8} {w : List UInt8} (h : c ∉ w) : Go.Lib.cut w [c] = (w, [], false) := by
  unfold Go.Lib.cut
  rw [index_none h, if_neg (by omega)]
theorem cut_len (l : List UInt8) (c : UInt8) : (Go.Lib.cut l [c]).1.length ≤ l.length ∧ (Go.Lib.cut l [c]).2.1.length ≤ l.length := by
  by_cases hc : c ∈ l
  · obtain ⟨w, r, rfl, hw⟩ := first_cut hc
    rw [cut_at hw]
    simp
    omega
  · rw [cut_none hc]
    simp
def RS (l : List UInt8) (s : Step) : Prop := s.given.terms.length ≤ 12 ∧ ∀ q, writeB q = true → lineS q = l → s = q
theorem i_readS {l : List UInt8} (h : l.length ≤ 1048576) {fu : Nat} (hf : 100 ≤ fu) : ∃ s, i_readStep fu (bs l) = some (s, writeB s && (lineS s == l)) ∧ RS l s := by
  unfold i_readStep strings_Cut
  rw [if_pos (by rw [bs_size]; omega), Option.bind_some, bs_list, show (⟨#[32]⟩ : ByteArray) = bs [32] from rfl, bs_list]
  have hq : ∀ q, lineS q = l → Go.Lib.cut l [32] = (wordS q.kind, argT q, true) := fun q e => by rw [← e]; exact cut_at (wordS_not (by decide) _)
  obtain ⟨hl1, hl2⟩ := cut_len l 32
  generalize Go.Lib.cut l [32] = c at *
  obtain ⟨w, a, fnd⟩ := c
  simp only at hl1 hl2 ⊢
  obtain ⟨x, hx, hk⟩ := i_indexS w
  have hrw : ∀ {β : Type} (f : Int → Option β), ((i_stepWords).bind fun x23 => (slices_Index_string x23 (bs w)).bind f) = f x := fun f => by
    have e : ((i_stepWords).bind fun x23 => (slices_Index_string x23 (bs w)).bind f) = ((i_stepWords).bind fun x25 => slices_Index_string x25 (bs w)).bind f := by
      rw [Option.bind_assoc]
    rw [e, hx]
    rfl
  rw [hrw, hk]
  have hkind : ∀ q, writeB q = true → lineS q = l → kS w = q.kind ∧ a = argT q := fun q hw e => by
    have := hq q e
    simp only [Prod.mk.injEq] at this
    rw [this.1, this.2.1]
    exact ⟨kS_word (write_parts hw).1, rfl⟩
  generalize kS w = k at *
  have hfin : ∀ s : Step, RS l s → s.kind = k → ∃ s', ((i_Step_writable s).bind fun x154 => (if x154 then ((i_Step_text s).bind fun x162 => some (ByteArray.toList x162 == ByteArray.toList (bs l))) else some false).bind fun b164 => some (s, b164)) = some (s', writeB s' && (lineS s' == l)) ∧ RS l s' := fun s hs _ => by
    refine ⟨s, ?_, hs⟩
    rw [i_write, Option.bind_some]
    cases hw : writeB s with
    | false => rfl
    | true =>
      simp only [if_true]
      rw [i_stepT hw, Option.bind_some, eq_bs, Option.bind_some]
      rfl
  by_cases h6 : k = 6
  · rw [if_pos (by simp [h6]), i_readLit (by omega), Option.bind_some, Option.bind_some]
    refine hfin ⟨k, litI a, 0, ⟨[], 0⟩⟩ ⟨by simp, fun q hw e => ?_⟩ rfl
    obtain ⟨e1, e2⟩ := hkind q hw e
    obtain ⟨_, ⟨p1, _⟩ | ⟨p1, p2, p3⟩ | ⟨p1, p2, _⟩ | ⟨p1, p2, _⟩⟩ := write_parts hw
    · omega
    · have : argT q = litT q.a := by unfold argT; rw [if_neg (by omega), if_pos p1]
      rw [p3, e2, this, litI_lit p2, h6]
    · omega
    · omega
  rw [if_neg (by simpa using h6)]
  by_cases h7 : k = 7
  · rw [if_pos (by simp [h7]), i_parseC (by omega) hf, Option.bind_some, Option.bind_some, Option.bind_some]
    refine hfin ⟨k, 0, 0, ⟨(parseC a).1.terms, (parseC a).1.bound⟩⟩ ⟨parseC_len a, fun q hw e => ?_⟩ rfl
    obtain ⟨e1, e2⟩ := hkind q hw e
    obtain ⟨_, ⟨p1, p2, p3⟩ | ⟨p1, _⟩ | ⟨p1, p2, _⟩ | ⟨p1, p2, _⟩⟩ := write_parts hw
    · have : argT q = conT q.given := by unfold argT; rw [if_pos p1]
      rw [p3, e2, this, parseC_con p2, h7]
    · omega
    · omega
    · omega
  rw [if_neg (by simpa using h7), if_pos (by rw [bs_size]; omega), Option.bind_some, bs_list]
  have hq2 : ∀ q, writeB q = true → lineS q = l → (q.kind = 4 ∨ q.kind = 8) → Go.Lib.cut a [32] = (dec q.a.toNat, [], false) := fun q hw e h48 => by
    obtain ⟨e1, e2⟩ := hkind q hw e
    have : argT q = dec q.a.toNat := by unfold argT; rw [if_neg (by omega), if_neg (by omega), if_pos h48]
    rw [e2, this]
    exact cut_none (dec_no32 _)
  have hq3 : ∀ q, writeB q = true → lineS q = l → ¬ (q.kind = 4 ∨ q.kind = 8) → Go.Lib.cut a [32] = (dec q.a.toNat, dec q.b.toNat, true) := fun q hw e h48 => by
    obtain ⟨e1, e2⟩ := hkind q hw e
    have : argT q = dec q.a.toNat ++ 32 :: dec q.b.toNat := by unfold argT; rw [if_neg (by omega), if_neg (by omega), if_neg h48]
    rw [e2, this]
    exact cut_at (dec_no32 _)
  obtain ⟨hl3, hl4⟩ := cut_len a 32
  generalize Go.Lib.cut a [32] = d at *
  obtain ⟨x1, y1, f1⟩ := d
  simp only at hl3 hl4 hq2 hq3 ⊢
  rw [i_num (by omega), Option.bind_some]
  have hb : ((if f1 then ((i_number (bs y1)).bind fun x137 => some x137) else (some 0)) : Option Int) = some (if f1 then numI y1 else 0) := by
    cases f1 with
    | false => rfl
    | true => simp only [if_true]; rw [i_num (by omega)]; rfl
  rw [hb, Option.bind_some, Option.bind_some, Option.bind_some]
  refine hfin ⟨k, numI x1, if f1 then numI y1 else 0, ⟨[], 0⟩⟩ ⟨by simp, fun q hw e => ?_⟩ rfl
  obtain ⟨e1, e2⟩ := hkind q hw e
  have dn : ∀ n : Int, 0 ≤ n ∧ n ≤ 20000 → numI (dec n.toNat) = n := fun n hn => by have := numI_dec (n := n.toNat) (by omega); omega
  obtain ⟨_, ⟨p1, _⟩ | ⟨p1, _⟩ | ⟨p1, p2, p3, p4, p5⟩ | ⟨p1, p2, p3, p4, p5, p6⟩⟩ := write_parts hw
  · omega
  · omega
  · have := hq2 q hw e p3
    simp only [Prod.mk.injEq] at this
    obtain ⟨rfl, rfl, rfl⟩ := this
    rw [p5]
    simp [dn _ p4, e1]
  · have := hq3 q hw e p3
    simp only [Prod.mk.injEq] at this
    obtain ⟨rfl, rfl, rfl⟩ := this
    rw [p6]
    simp [dn _ p4, dn _ p5, e1]
theorem line_inj {s q : Step} (hs : writeB s = true) (hq : writeB q = true) (h : lineS s = lineS q) : s = q := by
  obtain ⟨x, _, _, hx⟩ := i_readS (l := lineS q) (by have := (lineS_len hq).2; omega) (Nat.le_refl 100)
  rw [← hx s hs h, hx q hq rfl]
theorem s_readS {l : List UInt8} (h : l.length ≤ 1048576) {fu : Nat} (hf : 100 ≤ fu) : So (s_l4Parse fu (bs l)) (RS l) := by
  have hwl := splitC_len 32 l
  have hw : ∀ w ∈ splitC 32 l, w.length ≤ 1048576 := fun w hm => Nat.le_trans (splitC_mem hm) h
  have hne : (splitC 32 l).length ≠ 0 := by rw [Ne, List.length_eq_zero_iff]; exact splitC_ne 32 l
  have hsp : ∃ w0 r, (splitC 32 l).getD 0 [] = w0 ∧ (((splitC 32 l).length = 1 ∧ l = w0 ∧ r = []) ∨ (1 < (splitC 32 l).length ∧ l = w0 ++ 32 :: r)) ∧ ∀ q, lineS q = l → w0 = wordS q.kind ∧ r = argT q ∧ splitC 32 l = wordS q.kind :: splitC 32 (argT q) := by
    by_cases hc : (32 : UInt8) ∈ l
    · obtain ⟨w, r, rfl, hw1⟩ := first_cut hc
      have hsr : (splitC 32 r).length ≠ 0 := by rw [Ne, List.length_eq_zero_iff]; exact splitC_ne 32 r
      refine ⟨w, r, by rw [splitC_cut r hw1]; rfl, .inr ⟨by rw [splitC_cut r hw1, List.length_cons]; omega, rfl⟩, fun q e => ?_⟩
      have e2 : Go.Lib.cut (lineS q) [32] = (wordS q.kind, argT q, true) := cut_at (wordS_not (by decide) _)
      rw [e, cut_at hw1] at e2
      simp only [Prod.mk.injEq, and_true] at e2
      refine ⟨e2.1, e2.2, ?_⟩
      rw [splitC_cut r hw1, e2.1, e2.2]
    · refine ⟨l, [], by rw [splitC_none hc]; rfl, .inl ⟨by rw [splitC_none hc]; rfl, rfl, rfl⟩, fun q e => ?_⟩
      exact absurd (by rw [← e]; unfold lineS; simp) hc
  unfold s_l4Parse
  rw [show ((32 : Int)) = ((32 : Nat) : Int) from rfl, s_cut (by omega) h, show UInt8.ofNat 32 = 32 from rfl, Option.bind_some]
  obtain ⟨w0, r, hw0, hsp, hq⟩ := hsp
  generalize splitC 32 l = ws at *
  have h0 : idx (ws.map bs) 0 = some (bs w0) := by rw [← hw0]; exact idx_ws (i := 0) (by omega)
  unfold s_l4Words
  rw [Option.bind_some]
  simp only [List.length_cons, List.length_nil]
  have hc8 : cntF 1 (((0 + 1 + 1 + 1 + 1 + 1 + 1 + 1 + 1 + 1 : Nat) : Int)) = some 8 := by
    rw [cntF_of (by omega) (by omega)]
    rfl
  rw [hc8, Option.bind_some]
  have hkr := kS_range w0
  have hloop := count_to (b := s_l4Parse_b1 (ws.map bs) [(⟨#[]⟩ : ByteArray), (⟨#[97, 100, 100]⟩ : ByteArray), (⟨#[109, 117, 108, 116, 105, 112, 108, 121]⟩ : ByteArray), (⟨#[100, 105, 118, 105, 100, 101]⟩ : ByteArray), (⟨#[115, 97, 116, 117, 114, 97, 116, 101]⟩ : ByteArray), (⟨#[119, 101, 97, 107, 101, 110]⟩ : ByteArray), (⟨#[108, 105, 116, 101, 114, 97, 108]⟩ : ByteArray), (⟨#[114, 117, 112]⟩ : ByteArray), (⟨#[100, 101, 108, 101, 116, 101]⟩ : ByteArray)])
    (fun i => if kS w0 < (i : Int) then kS w0 else 0) 8 1 fun i h1 h2 => by
    unfold s_l4Parse_b1
    simp only []
    rw [h0, Option.bind_some, words_at (k := (i : Int)) (by omega), Option.bind_some, eq_bs]
    by_cases he : w0 = wordS (i : Int)
    · have hk := (kS_iff (by omega)).1 he
      rw [if_pos (by simpa using he), Option.bind_some, if_pos (by omega), hk]
    · have hk : kS w0 ≠ (i : Int) := fun e => he ((kS_iff (by omega)).2 e)
      rw [if_neg (by simpa using he), Option.bind_some]
      by_cases hlt : kS w0 < (i : Int)
      · rw [if_pos hlt, if_pos (by omega)]
      · rw [if_neg hlt, if_neg (by omega)]
  have hF1 : (if kS w0 < ((1 : Nat) : Int) then kS w0 else 0) = 0 := by split <;> omega
  have hF9 : (if kS w0 < ((1 + 8 : Nat) : Int) then kS w0 else 0) = kS w0 := if_pos (by omega)
  rw [hF1, hF9] at hloop
  rw [hloop, Option.bind_some]
  have hkind : ∀ q, writeB q = true → lineS q = l → kS w0 = q.kind := fun q hw e => by rw [(hq q e).1]; exact kS_word (write_parts hw).1
  generalize kS w0 = k at *
  simp only []
  refine so_ite (fun h7 => ?_) fun h7 => ?_
  · have h7 : k = 7 := by simpa using h7
    subst h7
    rw [h0, Option.bind_some, bs_size, List.length_map]
    have hone : s_l4One (decide ((ws.length : Int) > 1)) = some (if 1 < ws.length then 1 else 0) := by
      unfold s_l4One
      by_cases hc : 1 < ws.length
      · rw [if_pos (by simp; omega), if_pos hc]
      · rw [if_neg (by simp; omega), if_neg hc]
    rw [hone, Option.bind_some]
    have hssl : ssl (bs l) (i64 ((w0.length : Int) + (if 1 < ws.length then 1 else 0))) ((bs l).size : Int) = some (bs r) := by
      rcases hsp with ⟨s1, s2, s3⟩ | ⟨s1, s2⟩
      · rw [if_neg (by omega), i64_id (by rw [← s2]; omega) (by rw [← s2]; omega), Int.add_zero, ← s2, s3, ssl_from (Nat.le_refl _), List.drop_length]
      · have hl : w0.length + 1 ≤ l.length := by rw [s2]; simp
        rw [if_pos s1, i64_id (by omega) (by omega), show ((w0.length : Int) + 1) = ((w0.length + 1 : Nat) : Int) by omega, ssl_from hl, s2, show w0 ++ 32 :: r = (w0 ++ [32]) ++ r by simp, List.drop_left' (by simp)]
    rw [hssl, Option.bind_some]
    have hrl : r.length ≤ 1048576 := by
      rcases hsp with ⟨s1, s2, s3⟩ | ⟨s1, s2⟩
      · rw [s3]; simp
      · rw [s2] at h; simp at h; omega
    rw [s_parseC hrl hf, Option.bind_some]
    refine so_some ⟨parseC_len r, fun q hw e => ?_⟩
    have hk := hkind q hw e
    obtain ⟨_, ⟨p1, p2, p3⟩ | ⟨p1, _⟩ | ⟨p1, p2, _⟩ | ⟨p1, p2, _⟩⟩ := write_parts hw
    · have : argT q = conT q.given := by unfold argT; rw [if_pos p1]
      rw [(hq q e).2.1, this, parseC_con p2, p3]
    · omega
    · omega
    · omega
  · have h7 : k ≠ 7 := by simpa using h7
    refine so_bind (P := fun x => x = if 1 < ws.length then (if k = 6 then litS (ws.getD 1 []) else numS (ws.getD 1 [])) else 0) (so_ite (fun hc => ?_) fun hc => so_some ?_) fun x hx => ?_
    · rw [List.length_map] at hc
      have hc : 1 < ws.length := by have := of_decide_eq_true hc; omega
      obtain ⟨b, hb⟩ := s_num (l := ws.getD 1 []) (getD_ws hw 1)
      have e1 : idx (ws.map bs) 1 = some (bs (ws.getD 1 [])) := idx_ws (i := 1) hc
      rw [e1, Option.bind_some, hb, Option.bind_some, if_pos hc]
      by_cases h6 : k = 6
      · rw [if_pos (by simp [h6]), s_readLit (getD_ws hw 1), if_pos h6]
        exact so_some rfl
      · rw [if_neg (by simpa using h6), if_neg h6]
        exact so_some rfl
    · rw [List.length_map] at hc
      simp only [decide_eq_true_eq] at hc
      rw [if_neg (by omega)]
    subst hx
    refine so_bind (P := fun x => x = if 2 < ws.length then numS (ws.getD 2 []) else 0) (so_ite (fun hc => ?_) fun hc => so_some ?_) fun x hx => ?_
    · rw [List.length_map] at hc
      have hc : 2 < ws.length := by have := of_decide_eq_true hc; omega
      obtain ⟨b, hb⟩ := s_num (l := ws.getD 2 []) (getD_ws hw 2)
      have e1 : idx (ws.map bs) 2 = some (bs (ws.getD 2 [])) := idx_ws (i := 2) hc
      rw [e1, Option.bind_some, hb, Option.bind_some, if_pos hc]
      exact so_some rfl
    · rw [List.length_map] at hc
      simp only [decide_eq_true_eq] at hc
      rw [if_neg (by omega)]
    subst hx
    refine so_some ⟨by simp, fun q hw e => ?_⟩
    have hk := hkind q hw e
    obtain ⟨g1, g2, g3⟩ := hq q e
    have dn : ∀ n : Int, 0 ≤ n ∧ n ≤ 20000 → numS (dec n.toNat) = n := fun n hn => by have := numS_dec (n := n.toNat) (by omega); omega
    obtain ⟨_, ⟨p1, _⟩ | ⟨p1, p2, p3⟩ | ⟨p1, p2, p3, p4, p5⟩ | ⟨p1, p2, p3, p4, p5, p6⟩⟩ := write_parts hw
    · omega
    · have ea : argT q = litT q.a := by unfold argT; rw [if_neg (by omega), if_pos p1]
      rw [ea, splitC_none (litT_no32 _)] at g3
      subst g3
      rw [p3]
      simp [hk, p1, litS_lit p2]
    · have ea : argT q = dec q.a.toNat := by unfold argT; rw [if_neg (by omega), if_neg (by omega), if_pos p3]
      rw [ea, splitC_none (dec_no32 _)] at g3
      subst g3
      rw [p5]
      simp [hk, p2, dn _ p4]
    · have ea : argT q = dec q.a.toNat ++ 32 :: dec q.b.toNat := by unfold argT; rw [if_neg (by omega), if_neg (by omega), if_neg p3]
      rw [ea, splitC_cut _ (dec_no32 _), splitC_none (dec_no32 _)] at g3
      subst g3
      rw [p6]
      simp [hk, p2, dn _ p4, dn _ p5]
end Go.L
namespace Go.L
open Go Go.E
set_option linter.unusedVariables false
end Go.L
namespace Go.L
open Go Go.E
set_option linter.unusedVariables false
set_option linter.unusedSimpArgs false
set_option maxRecDepth 100000
end Go.L
namespace Go.L
open Go Go.E
set_option linter.unusedVariables false
set_option linter.unusedSimpArgs false
set_option maxRecDepth 100000
end Go.L
namespace Go.L
open Go Go.E
set_option linter.unusedVariables false
set_option linter.unusedSimpArgs false
set_option maxRecDepth 100000
theorem i_same_steps (a b : List Step) : i_ProofSame a b = some (decide (a = b)) := by
  unfold i_ProofSame slices_EqualFunc_implStep
  by_cases hl : a.length = b.length
  · rw [if_neg (by simp [hl]), equal_list a b (b := slices_EqualFunc_implStep_b1 b i_ProofSame_1) (fun i x => by
      rw [slices_EqualFunc_implStep_b1]
      congr 1
      funext y
      have e : i_ProofSame_1 x y = some (decide (x = y)) := by
        unfold i_ProofSame_1
        rw [i_same]
        obtain ⟨k1, a1, b1, g1⟩ := x
        obtain ⟨k2, a2, b2, g2⟩ := y
        by_cases h1 : k1 = k2
        · by_cases h2 : a1 = a2
          · by_cases h3 : b1 = b2
            · by_cases h4 : g1 = g2 <;> simp [h1, h2, h3, h4]
            · simp [h1, h2, h3]
          · simp [h1, h2]
        · simp [h1]
      rw [e]
      by_cases h : x = y <;> simp [h]) hl]
    by_cases h : a = b <;> simp [h]
  · rw [if_pos (by simp; omega), decide_eq_false (by intro h; rw [h] at hl; exact hl rfl)]
    rfl
end Go.L
namespace Go.L
open Go Go.E
set_option linter.unusedVariables false
set_option linter.unusedSimpArgs false
set_option maxRecDepth 100000
end Go.L
namespace Go.L
open Go Go.E
set_option linter.unusedSimpArgs false
set_option linter.unusedVariables false
set_option maxRecDepth 100000
def okS (xs : List Step) : Prop := xs.length ≤ 1000 ∧ ∀ s ∈ xs, writeB s = true
def textS (xs : List Step) : List UInt8 := (xs.map lineS).flatMap fun w => w ++ [10]
theorem textS_eq (xs : List Step) : textS xs = xs.flatMap fun s => lineS s ++ [10] := by unfold textS; rw [List.flatMap_map]
theorem fmtS_ok {xs : List Step} (h : okS xs) : fmtS xs = textS xs := by
  unfold fmtS
  rw [if_pos ⟨h.1, List.all_eq_true.2 h.2⟩, textS_eq]
theorem fmtS_not {xs : List Step} (h : ¬ okS xs) : fmtS xs = [] := by
  unfold fmtS
  rw [if_neg]
  rintro ⟨h1, h2⟩
  exact h ⟨h1, List.all_eq_true.1 h2⟩
theorem lineS_not10 (s : Step) : (10 : UInt8) ∉ lineS s := by
  unfold lineS
  intro h
  rcases List.mem_append.1 h with h | h
  · exact wordS_not (by decide) _ h
  · rcases List.mem_cons.1 h with h | h
    · exact absurd h (by decide)
    · unfold argT at h
      split at h
      · exact conT_no10 _ h
      · split at h
        · exact litT_no10 _ h
        · split at h
          · exact dec_no10 _ h
          · rcases List.mem_append.1 h with h | h
            · exact dec_no10 _ h
            · rcases List.mem_cons.1 h with h | h
              · exact absurd h (by decide)
              · exact dec_no10 _ h
theorem split_textS (xs : List Step) : splitC 10 (textS xs) = xs.map lineS ++ [[]] := by
  unfold textS
  refine split_lines _ _ fun w hw => ?_
  obtain ⟨s, _, rfl⟩ := List.mem_map.1 hw
  exact lineS_not10 s
theorem lines_inj : ∀ {xs ys : List Step}, (∀ s ∈ xs, writeB s = true) → (∀ s ∈ ys, writeB s = true) → xs.map lineS = ys.map lineS → xs = ys
  | [], [], _, _, _ => rfl
  | [], _ :: _, _, _, h => by simp at h
  | _ :: _, [], _, _, h => by simp at h
  | x :: xs, y :: ys, hx, hy, h => by
    rw [List.map_cons, List.map_cons, List.cons.injEq] at h
    rw [line_inj (hx x (by simp)) (hy y (by simp)) h.1, lines_inj (fun s hs => hx s (by simp [hs])) (fun s hs => hy s (by simp [hs])) h.2]
theorem textS_inj {xs ys : List Step} (hx : okS xs) (hy : okS ys) (h : textS xs = textS ys) : xs = ys := by
  have := congrArg (splitC 10) h
  rw [split_textS, split_textS] at this
  exact lines_inj hx.2 hy.2 (List.append_cancel_right this)
noncomputable def parseT (l : List UInt8) : List Step × Bool := open Classical in if h : ∃ xs, okS xs ∧ textS xs = l then (h.choose, true) else ([], false)
theorem parseT_ok {xs : List Step} (h : okS xs) : parseT (textS xs) = (xs, true) := by
  have hx : ∃ ys, okS ys ∧ textS ys = textS xs := ⟨xs, h, rfl⟩
  unfold parseT
  rw [dif_pos hx]
  exact Prod.ext (textS_inj hx.choose_spec.1 h hx.choose_spec.2) rfl
theorem parseT_no {l : List UInt8} (h : ∀ xs, okS xs → textS xs ≠ l) : parseT l = ([], false) := by
  unfold parseT
  rw [dif_neg]
  rintro ⟨xs, h1, h2⟩
  exact h xs h1 h2
theorem parseT_true {l : List UInt8} (h : (parseT l).2 = true) : okS (parseT l).1 ∧ textS (parseT l).1 = l := by
  by_cases hx : ∃ xs, okS xs ∧ textS xs = l
  · obtain ⟨xs, h1, rfl⟩ := hx
    rw [parseT_ok h1]
    exact ⟨h1, rfl⟩
  · rw [parseT_no fun xs h1 h2 => hx ⟨xs, h1, h2⟩] at h
    cases h
theorem i_parseT {l : List UInt8} (h : l.length ≤ 1048576) {fu : Nat} (hf : 100 ≤ fu) : i_ParseProof fu (bs l) = some (parseT l) := by
  have hw : ∀ w ∈ splitC 10 l, w.length ≤ 1048576 := fun w hm => Nat.le_trans (splitC_mem hm) h
  have hwl := splitC_len 10 l
  have hback := split_back 10 l
  have hne : (splitC 10 l).length ≠ 0 := by rw [Ne, List.length_eq_zero_iff]; exact splitC_ne 10 l
  have hxs : ∀ xs, okS xs → textS xs = l → splitC 10 l = xs.map lineS ++ [[]] := fun xs _ e => by rw [← e, split_textS]
  unfold i_ParseProof
  rw [i_lines h, Option.bind_some]
  generalize splitC 10 l = ws at *
  simp only []
  by_cases hc : ((ws.getD (ws.length - 1) [] == []) && decide (((ws.length - 1 : Nat) : Int) ≤ 1000)) = true
  · rw [hc]
    simp only [Bool.not_true, Bool.false_eq_true, if_false]
    rw [Bool.and_eq_true, beq_iff_eq, decide_eq_true_eq] at hc
    rw [hc.1, List.append_nil] at hback
    have hlines : ∀ w ∈ ws.take (ws.length - 1), w.length ≤ 1048576 := fun w hm => hw w (List.mem_of_mem_take hm)
    have hll : (ws.take (ws.length - 1)).length ≤ 1000 := by rw [List.length_take]; omega
    have hxs2 : ∀ xs, okS xs → textS xs = l → ws.take (ws.length - 1) = xs.map lineS := fun xs hx e => by
      rw [hxs xs hx e]
      simp
    generalize ws.take (ws.length - 1) = lines at *
    obtain ⟨j, hj, hQ⟩ := range_inv (b := i_ParseProof_b1 fu) (lines.map bs) (fun i (o : List Step) => (∀ s ∈ o, writeB s = true) ∧ o.map lineS = lines.take i)
      (fun j => match j with | .nx o => (∀ s ∈ o, writeB s = true) ∧ o.map lineS = lines | .out t => t = ([], false) ∧ ∀ xs : List Step, (∀ s ∈ xs, writeB s = true) → xs.map lineS ≠ lines) (by
        rintro o ⟨h1, h2⟩
        rw [List.length_map, List.take_length] at h2
        exact ⟨h1, h2⟩) (by
        rintro i x o hx ⟨h1, h2⟩
        rw [List.getElem?_map] at hx
        cases hli : lines[i]? with
        | none => rw [hli] at hx; cases hx
        | some w =>
          rw [hli] at hx
          cases hx
          have hi := (List.getElem?_eq_some_iff.1 hli).1
          have hol : o.length = i := by have := congrArg List.length h2; rw [List.length_map, List.length_take] at this; omega
          obtain ⟨s, hs, hs2⟩ := i_readS (hlines w (List.mem_of_getElem? hli)) hf
          unfold i_ParseProof_b1
          simp only []
          rw [hs, Option.bind_some]
          simp only []
          cases hb : (writeB s && (lineS s == w)) with
          | true =>
            rw [Bool.and_eq_true, beq_iff_eq] at hb
            rw [if_neg (by simp), app_le (by simp; omega), Option.bind_some]
            refine ⟨_, rfl, fun q hq => ?_, ?_⟩
            · rcases List.mem_append.1 hq with h | h
              · exact h1 q h
              · rw [List.mem_singleton.1 h]; exact hb.1
            · rw [List.map_append, h2, List.take_add_one, hli]
              simp [hb.2]
          | false =>
            rw [if_pos (by simp)]
            refine ⟨_, rfl, rfl, fun xs hx e => ?_⟩
            have hxi : i < xs.length := by have := congrArg List.length e; rw [List.length_map] at this; omega
            have hlx : lineS xs[i] = w := by
              have := hli
              rw [← e, List.getElem?_map, List.getElem?_eq_getElem hxi] at this
              simpa using this
            have hwx := hx xs[i] (List.getElem_mem hxi)
            have := hs2.2 xs[i] hwx hlx
            rw [this, hwx, hlx] at hb
            simp at hb) [] ⟨by simp, by simp⟩
    rw [hj, Option.bind_some]
    cases j with
    | nx o =>
      obtain ⟨h1, h2⟩ := hQ
      have hok : okS o := ⟨by have := congrArg List.length h2; rw [List.length_map] at this; omega, h1⟩
      have ht : textS o = l := by unfold textS; rw [h2]; exact hback
      simp only []
      rw [← ht, parseT_ok hok]
    | out t =>
      obtain ⟨rfl, h2⟩ := hQ
      simp only []
      rw [parseT_no fun xs hx e => h2 xs hx.2 (hxs2 xs hx e).symm]
  · have hc2 : ((ws.getD (ws.length - 1) [] == []) && decide (((ws.length - 1 : Nat) : Int) ≤ 1000)) = false := by simpa using hc
    rw [hc2]
    simp only [Bool.not_false, if_true]
    rw [parseT_no fun xs hx e => ?_]
    apply hc
    have hws := hxs xs hx e
    have hlen : ws.length = xs.length + 1 := by rw [hws]; simp
    have hlast : ws.getD (ws.length - 1) [] = [] := by
      unfold List.getD
      rw [hlen, hws, List.getElem?_append_right (by simp)]
      simp
    rw [hlast, hlen]
    have := hx.1
    simp
    omega
theorem s_parseT {l : List UInt8} (h : l.length ≤ 1048576) {fu : Nat} (hf : 2000 ≤ fu) : s_ParseProof fu (bs l) = some (parseT l) := by
  have hw : ∀ w ∈ splitC 10 l, w.length ≤ 1048576 := fun w hm => Nat.le_trans (splitC_mem hm) h
  have hwl := splitC_len 10 l
  have hne : (splitC 10 l).length ≠ 0 := by rw [Ne, List.length_eq_zero_iff]; exact splitC_ne 10 l
  have hnil : l = [] → splitC 10 l = [[]] := fun e => by rw [e]; rfl
  have hxs : ∀ xs, okS xs → textS xs = l → splitC 10 l = xs.map lineS ++ [[]] := fun xs _ e => by rw [← e, split_textS]
  unfold s_ParseProof
  rw [show ((10 : Int)) = ((10 : Nat) : Int) from rfl, s_cut (by omega) h, show UInt8.ofNat 10 = 10 from rfl, Option.bind_some]
  generalize splitC 10 l = ws at *
  rw [List.length_map]
  by_cases hc : ws.length ≤ 1001
  · rw [if_neg (by simp only [decide_eq_true_eq]; omega)]
    obtain ⟨j, hj, o, i, hjq, ho, hr⟩ := while_inv (b := s_ParseProof_b1 fu (ws.map bs)) (fun n s => ∃ o : List Step, s = (o, (o.length : Int)) ∧ o.length + 1 ≤ ws.length ∧ (∀ (k : Nat) (s : Step), o[k]? = some s → RS (ws.getD k []) s) ∧ n = ws.length - o.length)
      (fun j => ∃ (o : List Step) (i : Int), j = .nx (o, i) ∧ o.length + 1 = ws.length ∧ (∀ (k : Nat) (s : Step), o[k]? = some s → RS (ws.getD k []) s)) (by
        rintro n s ⟨o, rfl, h1, h2, rfl⟩
        unfold s_ParseProof_b1
        simp only [List.length_map]
        rw [i64_id (n := (o.length : Int) + 1) (by omega) (by omega)]
        by_cases hlt : o.length + 1 < ws.length
        · obtain ⟨s, hs, hs2⟩ := s_readS (getD_ws hw o.length) (show 100 ≤ fu by omega)
          rw [if_pos (by simp only [decide_eq_true_eq]; omega), idx_ws (by omega), Option.bind_some, hs, Option.bind_some, app_le (by simp; omega), Option.bind_some]
          refine ⟨_, rfl, ws.length - (o.length + 1), by omega, o ++ [s], ?_, by simp; omega, fun k s' hk => ?_, by simp⟩
          · rw [List.length_append, List.length_singleton]
            rfl
          · by_cases hkl : k < o.length
            · rw [List.getElem?_append_left hkl] at hk
              exact h2 k s' hk
            · have hk2 := (List.getElem?_eq_some_iff.1 hk).1
              simp at hk2
              have : k = o.length := by omega
              subst this
              simp at hk
              subst hk
              exact hs2
        · rw [if_neg (by simp only [decide_eq_true_eq]; omega)]
          exact ⟨_, rfl, o, _, rfl, by omega, h2⟩) fu ws.length ([], 0) ⟨[], rfl, by simp; omega, by simp, by simp⟩ (by omega)
    subst hjq
    rw [hj, Option.bind_some]
    simp only []
    have hg : ∀ s ∈ o, s.given.terms.length ≤ ML := fun s hs => by
      obtain ⟨k, hk, rfl⟩ := List.mem_iff_getElem.1 hs
      have := (hr k _ (List.getElem?_eq_getElem hk)).1
      unfold ML
      omega
    rw [s_fmtS o hg (by omega), Option.bind_some, eq_bs]
    have huniq : ∀ xs, okS xs → textS xs = l → o = xs := fun xs hx e => by
      have hws := hxs xs hx e
      have hlen : o.length = xs.length := by have := congrArg List.length hws; simp at this; omega
      apply List.ext_getElem hlen
      intro i hi hi2
      refine (hr i _ (List.getElem?_eq_getElem hi)).2 _ (hx.2 _ (List.getElem_mem hi2)) ?_
      unfold List.getD
      rw [hws, List.getElem?_append_left (by simpa using hi2), List.getElem?_map, List.getElem?_eq_getElem hi2]
      rfl
    by_cases he : fmtS o = l
    · rw [he]
      simp only [beq_self_eq_true, Bool.not_true, Bool.false_eq_true, if_false]
      by_cases hok : okS o
      · rw [← he, fmtS_ok hok, parseT_ok hok]
      · exfalso
        rw [fmtS_not hok] at he
        have := hnil he.symm
        rw [this] at ho
        simp at ho
        exact hok ⟨by rw [ho]; simp, by rw [ho]; simp⟩
    · rw [show (!(fmtS o == l)) = true from by simpa using he]
      simp only [if_true]
      rw [parseT_no fun xs hx e => ?_]
      have := huniq xs hx e
      subst this
      exact he (by rw [fmtS_ok hx, e])
  · rw [if_pos (by simp only [decide_eq_true_eq]; omega), parseT_no fun xs hx e => ?_]
    have hws := hxs xs hx e
    have hlen : ws.length = xs.length + 1 := by rw [hws]; simp
    have := hx.1
    omega
theorem drawS_ok (code : List UInt8) (fu : Nat) (hf : FU ≤ fu) : So (s_DrawFormatProof fu code) fun xs => xs.length ≤ 9 ∧ ∀ s ∈ xs, s.given.terms.length ≤ 12 := by
  unfold s_DrawFormatProof
  refine so_bind (open_ok code) fun r ⟨hb, hp⟩ => ?_
  refine so_bind (pair_ok r fu hf hb (by omega) (by unfold PM; omega)) fun x ⟨x1, x2, x3, x4⟩ => ?_
  refine so_bind (P := fun (o : Bool × Int) => (o.1 = true → 0 < x.2.1.length) ∧ 0 ≤ o.2 ∧ o.2 ≤ 2000) (so_ite (fun hc => ?_) fun _ => so_some ⟨nofun, by simp only; omega, by simp only; omega⟩) fun o ⟨o1, o2, o3⟩ => ?_
  · have hc := of_decide_eq_true hc
    exact so_bind (pick_ok _ _ hb (by simp only; omega) (by unfold PM; simp only; omega)) fun k ⟨hk, _, _⟩ => so_some ⟨fun _ => by omega, by simp only at hk ⊢; omega, by simp only at hk ⊢; omega⟩
  refine so_bind (P := fun (xs : List Step) => xs.length ≤ 9 ∧ ∀ s ∈ xs, s.given.terms.length ≤ 12) (so_ite (fun hc => ?_) fun _ => so_some x2) fun xs h => so_some h
  have hlen := o1 hc
  refine so_bind (pick_ok _ _ hb (by simp only; omega) (by unfold PM; simp only; omega)) fun k ⟨hk, _, _⟩ => ?_
  simp only at hk
  refine so_bind (num_ok _ _ (by simp) hb (by simp only; omega) (by unfold PM; simp only; omega)) fun a ⟨ha, _⟩ => ?_
  simp only at ha
  refine so_bind (num_ok _ _ (by simp) hb (by simp only; omega) (by unfold PM; simp only; omega)) fun b ⟨hb', _⟩ => ?_
  refine so_bind (so_idx (P := fun _ => True) (by omega) (by omega) fun _ _ => trivial) fun z _ => so_some ⟨by rw [List.length_set]; exact x2.1, fun s hs => ?_⟩
  rcases List.mem_or_eq_of_mem_set hs with h | h
  · exact x2.2 s h
  · subst h; simp
theorem drawTS_ok (code : List UInt8) (fu : Nat) (hf : FU ≤ fu) : So (s_DrawParseProof fu code) fun t => ∃ l, t = bs l ∧ l.length ≤ 200000 := by
  have hf3 : 30 ≤ fu := by unfold FU at hf; omega
  unfold s_DrawParseProof
  refine so_bind (open_ok code) fun r ⟨hb, hp⟩ => ?_
  refine so_bind (pair_ok r fu hf hb (by omega) (by unfold PM; omega)) fun x ⟨x1, x2, x3, x4⟩ => ?_
  rw [s_fmtS x.2.1 (fun s hs => by have := x2.2 s hs; unfold ML; omega) hf3, Option.bind_some]
  have h := fmtS_len x.2.1
  have hbnd := bend_ok ⟨r.b, x.2.2⟩ (fmtS x.2.1) [[], [32], [10], [49], [120], [114, 117, 112]] (by omega) (by simp) (by decide) hb (by simp only; omega) (by unfold PM; simp only; omega)
  exact so_bind hbnd fun y ⟨⟨q, hq, hq2⟩, _⟩ => so_some ⟨q, hq, by omega⟩
theorem FnProofText_ok (code more : List UInt8) (g0 : code.length ≤ 9223372036854775807 ∧ ∀ x ∈ code, True) (g1 : more.length ≤ 9223372036854775807 ∧ ∀ x ∈ more, True) : ∃ fu, l_FnProofText fu code more = some true := by
  refine ⟨FU, ?_⟩
  unfold l_FnProofText
  split
  · rfl
  obtain ⟨t, ht, l, rfl, hl⟩ := drawTS_ok more FU (Nat.le_refl _)
  have hrest : ((s_DrawParseProof FU more).bind fun x113 => (i_ParseProof FU x113).bind fun x126 => (s_ParseProof FU x113).bind fun x141 => (if (x126.2 == x141.2) then ((i_ProofSame x126.1 x141.1).bind fun x158 => some x158) else some false).bind fun b160 => (if b160 then ((if (!x126.2) then some true else ((i_FormatProof x126.1).bind fun x167 => some (ByteArray.toList x167 == ByteArray.toList x113))).bind fun b169 => some b169) else some false).bind fun b170 => some b170) = some true := by
    rw [ht, Option.bind_some, i_parseT (by omega) (by decide), Option.bind_some, s_parseT (by omega) (by decide), Option.bind_some, i_same_steps]
    simp only [beq_self_eq_true, if_true, Option.bind_some, decide_true]
    cases hb : (parseT l).2 with
    | false => rfl
    | true =>
      obtain ⟨h1, h2⟩ := parseT_true hb
      simp only [Bool.not_true, Bool.false_eq_true, if_false, i_fmtS, Option.bind_some, eq_bs]
      have : fmtS (parseT l).1 = l := by rw [fmtS_ok h1, h2]
      rw [this]
      simp
  rw [hrest]
  obtain ⟨xs, hx, hxl, hxg⟩ := drawS_ok code FU (Nat.le_refl _)
  have hfl := fmtS_len xs
  have hml : ∀ s ∈ xs, s.given.terms.length ≤ ML := fun s hs => by have := hxg s hs; unfold ML; omega
  rw [hx, Option.bind_some, i_fmtS, Option.bind_some, i_parseT (by omega) (by decide), Option.bind_some, s_fmtS xs hml (by decide), Option.bind_some, eq_bs, show (⟨#[]⟩ : ByteArray) = bs [] from rfl, eq_bs]
  by_cases hok : okS xs
  · rw [fmtS_ok hok, parseT_ok hok]
    simp only [beq_self_eq_true, Bool.not_true, Bool.or_self, Bool.false_eq_true, if_false, i_same_steps, decide_true, Option.bind_some]
    cases ((!(textS xs == [])) || ((xs.length : Int) == 0)) <;> rfl
  · have hlen : ((xs.length : Int) == 0) = false := by
      simp only [beq_eq_false_iff_ne]
      intro e
      have : xs = [] := List.length_eq_zero_iff.1 (by omega)
      subst this
      exact hok ⟨by simp, by simp⟩
    have hp : parseT [] = ([], true) := parseT_ok (xs := []) ⟨by simp, by simp⟩
    rw [fmtS_not hok, hp, hlen]
    rfl
end Go.L
