/- How an argument that the row reads (DataW.trod) is opened as data of a reading RP; how the row is closed. -/
import Derived.Test.YteeilbddjlpiaaaG8
import Derived.ProofKit
import Derived.OpenShut
namespace Go.E
open Go Go.RowKit Go.ChangeShapes Go.WideShapes Go.ChangeAt
set_option linter.unusedVariables false
abbrev Ext (w w' : World) : Prop := Below w.heap.size w w'
structure Opn (P : Program) (t : TypeId) {α : Type} (r : RP α) (good : α → Prop) : Prop where
  n : P.cellsOf t = r.n
  op : ∀ {H : Type} (enc : TypeId × Value → H) (w : World) (base : Nat) (spare : Nat → Bool) (held : Bool) (fuel : Nat) (cs : List Value) (x : DataW H × List MemPlace),
    DataW.trod enc P w base spare held fuel t cs = some x → ∃ a, r.rel (fullH w) cs a ∧ good a
section
variable {P : Program} {t e : TypeId} {α β : Type} {r : RP α} {good : α → Prop}
theorem opn_u8 (ht : P.underlying t = some (.int .u8)) (hn : P.cellsOf t = 1) : Opn P t RP.u8 (fun _ => True) where
  n := hn
  op enc w base spare held fuel cs x h := by
    obtain ⟨n, rfl, _, hw⟩ := DataW.trod_int ht h
    have hb := bounds_u8 hw
    refine ⟨UInt8.ofNat n.toNat, ?_, trivial⟩
    show [Value.int .u8 n] = [Value.int .u8 ((UInt8.ofNat n.toNat).toNat : Int)]
    have : ((UInt8.ofNat n.toNat).toNat : Int) = n := by
      rw [UInt8.toNat_ofNat']
      omega
    rw [this]
theorem opn_slice (ht : P.underlying t = some (.slice e)) (hn : P.cellsOf t = 1) (h1 : 0 < r.n) (he : Opn P e r good) : Opn P t (RP.slice e r) (fun xs => xs.length ≤ 9223372036854775807 ∧ ∀ x ∈ xs, good x) where
  n := hn
  op enc w base spare held fuel cs x h := by
    rcases DataW.trod_slice ht h with ⟨rfl, _⟩ | ⟨a, len, cap, elems, rest, n, _, rfl, _, hb, hl, hm, hlen, hel, _, _⟩
    · exact ⟨[], slice_nil _ _ (by simp), by simp⟩
    · have hall : ∀ i, i < len → ∃ y : α, good y ∧ ∃ cs', r.rel (fullH w) cs' y ∧ cs'.length = r.n ∧ ∀ j, j < r.n → w.cell? (a.add (i * r.n + j)) = cs'[j]? := by
        intro i hi
        have hx : elems[i]? = some (elems[i]'(by omega)) := List.getElem?_eq_getElem (by omega)
        have h2 := hel i hi
        rw [hx, Option.bind_eq_some_iff] at h2
        obtain ⟨cs', hc, hd⟩ := h2
        obtain ⟨_, hl', hcell⟩ := World.cells?_some hc
        obtain ⟨y, hr, hg⟩ := he.op enc w base spare held n cs' _ hd
        rw [he.n] at hl' hcell
        exact ⟨y, hg, cs', hr, hl', fun j hj => by rw [← Addr.add_add]; exact hcell j hj⟩
      let f : Fin len → α := fun i => Classical.choose (hall i.val i.isLt)
      have hf : ∀ i : Fin len, good (f i) ∧ ∃ cs', r.rel (fullH w) cs' (f i) ∧ cs'.length = r.n ∧ ∀ j, j < r.n → w.cell? (a.add (i.val * r.n + j)) = cs'[j]? := fun i => Classical.choose_spec (hall i.val i.isLt)
      have hm2 : cap ≤ 9223372036854775807 := hm
      refine ⟨List.ofFn f, ⟨some a, cap, by simp, by simpa using hl, hm, fun hne => ?_⟩, by simp; omega, fun y hy => ?_⟩
      · have h0 : 0 < len := by
          rcases Nat.eq_zero_or_pos len with h | h
          · subst h; exact absurd (by simp) hne
          · exact h
        obtain ⟨_, cs0, hr0, hl0, hc0⟩ := hf ⟨0, h0⟩
        have h3 := hc0 0 h1
        rw [List.getElem?_eq_getElem (by omega)] at h3
        have h4 : a.add (0 * r.n + 0) = a := by simp [Addr.add]
        simp only at h3
        rw [h4] at h3
        have hspot := World.cell?_spot h3
        obtain ⟨g, o, sp⟩ := a
        simp only at hspot
        subst hspot
        have hblk : ∃ c t' fz, w.heap[g]? = some (.cells c t' fz) := by
          unfold World.cell? at h3
          cases hg : w.heap[g]? with
          | none => simp [hg] at h3
          | some ob =>
            cases ob <;> simp [hg] at h3 <;> exact ⟨_, _, _, rfl⟩
        obtain ⟨c, t', fz, hc⟩ := hblk
        have hlt : g < w.heap.size := (Array.getElem?_eq_some_iff.1 hc).1
        refine ⟨g, o, c, t', fz, rfl, hc, fun i z hz => ?_⟩
        have hil : i < len := by have := (List.getElem?_eq_some_iff.1 hz).1; simpa using this
        have hz2 : f ⟨i, hil⟩ = z := by simpa [hil] using hz
        obtain ⟨_, cs', hr, hl', hcell⟩ := hf ⟨i, hil⟩
        refine ⟨cs', hz2 ▸ hr, fun j v hj => ?_⟩
        have hjn : j < r.n := by have := (List.getElem?_eq_some_iff.1 hj).1; omega
        have h5 := hcell j hjn
        simp only [add_lit] at h5
        rw [hj] at h5
        simp [World.cell?, hc] at h5
        rwa [Nat.add_assoc]
      · rw [List.mem_ofFn] at hy
        obtain ⟨i, rfl⟩ := hy
        exact (hf i).1
end
section close
variable {H : Type} {enc : TypeId × Value → H} {P : Program}
theorem opn_slice_arg {t e : TypeId} {α : Type} {r : RP α} {good : α → Prop} {W : World} {base : Nat} {v : Value} {d : DataW H} {ps : List MemPlace} (o : Opn P t r good)
    (ht : P.underlying t = some (.slice e)) (hval : Value.okWide P W .any base t v) (h : DataW.Trod enc P W 0 (fun _ => true) true t v d ps) :
    ∃ a, r.rel (fullH W) [v] a ∧ good a := by
  obtain ⟨x, l, c, rfl⟩ := okWide_slice ht hval
  obtain ⟨fuel, hf⟩ := h
  exact o.op enc W 0 _ true fuel _ _ hf
theorem trodAll_stays (hl : laidOutB P = true) {W W' : World} (hb : Ext W W') (sp : Nat → Bool) : ∀ {ts : List TypeId} {vs : List Value} {ds : List (DataW H)} {ps : List MemPlace},
    ts.all (fun t => P.readableRec t && decide (t < P.types.size)) = true → DataW.TrodAll enc P W 0 (fun _ => true) true ts vs ds ps → (∀ p ∈ ps, p.block < W.heap.size) → (∀ p ∈ ps, sp p.block = true) →
    DataW.TrodAll enc P W' 0 sp true ts vs ds ps := by
  intro ts
  induction ts with
  | nil =>
    intro vs ds ps _ h _ _
    obtain ⟨rfl, rfl, rfl⟩ := trodAll_nil h
    exact rfl
  | cons t ts ih =>
    intro vs ds ps hts h hlt hsp
    obtain ⟨v, vs', d, ds', p, q, rfl, rfl, rfl, hd, hr⟩ := trodAll_cons h
    rw [List.all_cons, Bool.and_eq_true, Bool.and_eq_true] at hts
    refine trodAll_cons_mk (WideElems.Trod_stays hl hts.1.1 (of_decide_eq_true hts.1.2) hd (fun x hx => hb.same (hlt x (List.mem_append_left _ hx))) (fun x hx => hsp x (List.mem_append_left _ hx))) ?_
    exact ih hts.2 hr (fun x hx => hlt x (List.mem_append_right _ hx)) (fun x hx => hsp x (List.mem_append_right _ hx))
theorem post_true {f : Func} {s : ChangeSpec} {apart fresh handsOn again : Bool} {W W' : World} {args : Array Value} {ds gs : List (DataW H)} {before : List MemPlace} {tb : TypeId}
    (hl : laidOutB P = true) (hts : f.params.toList.all (fun t => P.readableRec t && decide (t < P.types.size)) = true)
    (hW : DataW.Whole enc P f.params.toList s.vars apart W args.toList ds gs before) (hv : s.vars = [])
    (hs1 : (s.fn H (ds ++ gs)).results = [.lit (.bool true)]) (hs2 : (s.fn H (ds ++ gs)).args = ds) (hs3 : (s.fn H (ds ++ gs)).vars = [])
    (hrt : f.resultTypes = #[tb]) (hu : P.underlying tb = some .bool) (hb : Ext W W') : s.post enc P f apart fresh handsOn again W args (.bool true) W' := by
  have hlt : ∀ p ∈ before, p.block < W.heap.size := fun p hp => hW.lt p hp
  have hW0 := hW
  obtain ⟨p, q, hA, hV, rfl, hfz, hnd⟩ := hW0
  rw [hv] at hV
  obtain ⟨rfl, rfl⟩ := trodVars_none hV
  rw [List.append_nil] at hfz hnd hlt
  have hA2 : ∀ sp : Nat → Bool, (∀ x ∈ p, sp x.block = true) → DataW.TrodAll enc P W' 0 sp true f.params.toList args.toList ds p := fun sp hsp => trodAll_stays hl hb sp hts hA hlt hsp
  have hold : ∀ x ∈ p, (fun b => decide (b < W.heap.size)) x.block = true := fun x hx => by simpa using hlt x hx
  have hres : ∀ (b : Nat) (sp : Nat → Bool) (hd : Bool), DataW.TrodAll enc P W' b sp hd f.resultTypes.toList ((Value.bool true).resultList f.resultTypes.size) [.lit (.bool true)] [] := by
    intro b sp hd
    rw [hrt]
    exact trodAll_cons_mk (shut_bool hu true) trodAll_mk0
  have hV2 : ∀ sp : Nat → Bool, DataW.TrodVars enc P W' sp s.vars (s.fn H (ds ++ [])).vars [] := by
    intro sp; rw [hs3, hv]; exact rfl
  have hok : ∀ (j : Nat) (t : TypeId) (r : Value), f.resultTypes[j]? = some t → ((Value.bool true).resultList f.resultTypes.size)[j]? = some r → Value.okWide P W' .any 0 t r := ok_one hrt rfl (okWide_bool_mk hu true)
  refine ⟨ds, [], p ++ [], [], p, [], hW, by rw [hs1]; exact hres _ _ _, by rw [hs2]; exact hA2 _ hold, hV2 _, World.keptBut_mono (fun x hx => ⟨hx, ?_⟩) (hb.frame (· ∈ p ++ [])), fun _ => ?_⟩
  · rw [List.append_nil] at hx
    exact Or.inr (Or.inl hx)
  · refine ⟨hok, _, _, ([] ++ p) ++ [], ⟨[] ++ p, [], trodAll_append (hA2 _ fun _ _ => rfl) (hres _ _ _), hV2 _, rfl, ?_, ?_⟩, ?_⟩
    · intro b off hp
      have hin : MemPlace.cell b off ∈ p := by simpa using hp
      rw [hb.frozen (hlt _ hin)]
      exact hfz b off hin
    · intro ha
      simpa using hnd ha
    · intro x hx _
      simpa using hx
end close
section opens
variable {P : Program} {t e : TypeId}
theorem opn_bytes (ht : P.underlying t = some (.slice e)) (hn : P.cellsOf t = 1) (h : Opn P e RP.u8 (fun _ => True)) : Opn P t (RP.slice e RP.u8) (fun xs => xs.length ≤ 9223372036854775807 ∧ ∀ x ∈ xs, True) := opn_slice ht hn (Nat.lt_add_one 0) h
end opens
end Go.E
