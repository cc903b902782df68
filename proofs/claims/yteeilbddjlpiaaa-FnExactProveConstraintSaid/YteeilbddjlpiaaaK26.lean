/- Propagation as a plain function; it ends, stays below what satisfies the constraints, and ends closed. -/
import Derived.Test.YteeilbddjlpiaaaK25
namespace Go.L
open Go Go.E
set_option linter.unusedVariables false
set_option linter.unusedSimpArgs false
set_option maxRecDepth 100000
/-! sums over terms -/
def sumR (f : Term → Int) : List Term → Int
  | [] => 0
  | t :: ts => f t + sumR f ts
theorem foldl_sumR (f : Term → Int) : ∀ (ts : List Term) (n : Int), ts.foldl (fun n t => n + f t) n = n + sumR f ts
  | [], n => by simp [sumR]
  | t :: ts, n => by rw [List.foldl_cons, foldl_sumR f ts, sumR]; omega
theorem sumR_le {f g : Term → Int} : ∀ (ts : List Term), (∀ t ∈ ts, f t ≤ g t) → sumR f ts ≤ sumR g ts
  | [], _ => Int.le_refl _
  | t :: ts, h => by
    have h1 := h t (by simp)
    have h2 := sumR_le (f := f) (g := g) ts fun u hu => h u (by simp [hu])
    simp only [sumR]; omega
theorem sumR_le_mem {f g : Term → Int} (u : Term) (d : Int) (hd : f u + d ≤ g u) : ∀ (ts : List Term), u ∈ ts → (∀ t ∈ ts, f t ≤ g t) → sumR f ts + d ≤ sumR g ts
  | [], hu, _ => by cases hu
  | t :: ts, hu, h => by
    have h1 := h t (by simp)
    have h2 := sumR_le (f := f) (g := g) ts fun u hu => h u (by simp [hu])
    simp only [sumR]
    rcases List.mem_cons.1 hu with e | hu
    · rw [← e] at *; omega
    · have := sumR_le_mem (f := f) (g := g) u d hd ts hu fun u hu => h u (by simp [hu]); omega
theorem keepT_sum (p : List Int) (ts : List Term) : keepT p ts = sumR (fun t => if stt p t.lit ≥ 0 then t.coef else 0) ts := by
  have := foldl_sumR (fun t => if stt p t.lit ≥ 0 then t.coef else 0) ts 0
  rw [Int.zero_add] at this
  rw [← this, keepT]
  congr 1
  funext n t
  split <;> omega
/-- q knows what p knows -/
def LeP (p q : List Int) : Prop := ∀ k, k < 12 → p.getD k 0 ≠ 0 → q.getD k 0 = p.getD k 0
theorem leP_refl (p : List Int) : LeP p p := fun _ _ _ => rfl
theorem leP_trans {p q r : List Int} (h : LeP p q) (h' : LeP q r) : LeP p r := fun k hk hn => by
  have e := h k hk hn
  rw [h' k hk (by rw [e]; exact hn), e]
theorem leP_stt {p q : List Int} (h : LeP p q) {l : Int} (hl : lit12 l) (hn : stt p l ≠ 0) : stt q l = stt p l := by
  obtain ⟨h0, h1, h2⟩ := hl
  unfold stt at *
  split
  · rename_i hp
    rw [if_pos hp] at hn
    exact h _ (by omega) hn
  · rename_i hp
    rw [if_neg hp] at hn
    rw [h _ (by omega) (by omega)]
theorem okT_lit12 {t : Term} (h : okT t = true) : lit12 t.lit := ⟨(okT_lit h).1, (okT_lit h).2.1, (okT_lit h).2.2.1⟩
theorem getD_set (p : List Int) (i k : Nat) (x : Int) (hk : k < p.length) : (p.set i x).getD k 0 = if i = k then x else p.getD k 0 := by
  rw [List.getD_eq_getElem?_getD, List.getElem?_set, List.getD_eq_getElem?_getD]
  split
  · rename_i h; subst h; simp [hk]
  · rfl
theorem asg_leP {p q : List Int} (hp : okP p) (h : LeP p q) {l : Int} (hl : lit12 l) (hq : stt q l = 1) : LeP (asg p l) q := by
  obtain ⟨h0, h1, h2⟩ := hl
  intro k hk hn
  unfold asg stt at *
  split at hq
  · rename_i hp'
    rw [if_pos hp', getD_set _ _ _ _ (by rw [hp.1]; exact hk)] at *
    split
    · rename_i e; subst e; exact hq
    · rename_i e; rw [if_neg e] at hn; exact h k hk hn
  · rename_i hp'
    rw [if_neg hp', getD_set _ _ _ _ (by rw [hp.1]; exact hk)] at *
    split
    · rename_i e; subst e; omega
    · rename_i e; rw [if_neg e] at hn; exact h k hk hn
theorem slack_mono {p q : List Int} (hp : okP p) (hq : okP q) (h : LeP p q) {c : Con} (hc : okCon c = true) : slackC c q ≤ slackC c p := by
  unfold slackC
  rw [keepT_sum, keepT_sum]
  have := sumR_le (f := fun t => if stt q t.lit ≥ 0 then t.coef else 0) (g := fun t => if stt p t.lit ≥ 0 then t.coef else 0) c.terms fun t ht => by
    have hk := (okCon_parts hc).2.2.1 t ht
    have hl := okT_lit12 hk
    have h3 := (okT_lit hk).2.2.2.1
    by_cases h0 : stt p t.lit = 0
    · simp only [h0]; split <;> simp; omega
    · simp only [leP_stt h hl h0]; omega
  omega
/-- nothing is violated, and nothing more follows -/
def Closed (q : List Int) (c : Con) : Prop := 0 ≤ slackC c q ∧ impL q (slackC c q) c.terms = []
theorem impL_mem {p : List Int} {sl : Int} {ts : List Term} {l : Int} (h : l ∈ impL p sl ts) : ∃ t ∈ ts, t.lit = l ∧ stt p l = 0 ∧ t.coef > sl := by
  unfold impL at h
  obtain ⟨t, ht, rfl⟩ := List.mem_map.1 h
  rw [List.mem_filter] at ht
  have := ht.2
  unfold impT at this
  simp at this
  exact ⟨t, ht.1, rfl, this.1, this.2⟩
theorem impL_nil {p : List Int} {sl : Int} {ts : List Term} (h : impL p sl ts = []) {t : Term} (ht : t ∈ ts) (h0 : stt p t.lit = 0) : t.coef ≤ sl := by
  unfold impL at h
  rw [List.map_eq_nil_iff, List.filter_eq_nil_iff] at h
  have := h t ht
  unfold impT at this
  simp [h0] at this
  exact this
theorem imp_closed {p q : List Int} (hp : okP p) (hq : okP q) (h : LeP p q) {c : Con} (hc : okCon c = true) (hcl : Closed q c) {l : Int} (hl : l ∈ impL p (slackC c p) c.terms) : lit12 l ∧ stt q l = 1 := by
  obtain ⟨t, ht, rfl, h0, hs⟩ := impL_mem hl
  have hk := (okCon_parts hc).2.2.1 t ht
  have hl := okT_lit12 hk
  refine ⟨hl, ?_⟩
  have hm := slack_mono hp hq h hc
  have hr := stt_range hq hl.1 hl.2.1 hl.2.2
  by_cases e0 : stt q t.lit = 0
  · have := impL_nil hcl.2 ht e0
    omega
  · by_cases e1 : stt q t.lit = 1
    · exact e1
    exfalso
    have hn : stt q t.lit < 0 := by omega
    have := sumR_le_mem (f := fun t => if stt q t.lit ≥ 0 then t.coef else 0) (g := fun t => if stt p t.lit ≥ 0 then t.coef else 0) t t.coef (by simp only [h0]; rw [if_neg (by omega)]; simp) c.terms ht fun t ht => by
      have hk := (okCon_parts hc).2.2.1 t ht
      have hl := okT_lit12 hk
      have h3 := (okT_lit hk).2.2.2.1
      by_cases h0 : stt p t.lit = 0
      · simp only [h0]; split <;> simp; omega
      · simp only [leP_stt h hl h0]; omega
    have hcl := hcl.1
    unfold slackC at hcl hs
    rw [keepT_sum] at hcl hs
    omega
/-! propagation -/
inductive PR
  | conf (p : List Int) (i : Nat)
  | go (p : List Int) (m : Bool)
def pass : List Con → Nat → List Int → Bool → PR
  | [], _, p, m => .go p m
  | c :: cs, i, p, m => if slackC c p < 0 then .conf p i else pass cs (i + 1) (asgL p (impL p (slackC c p) c.terms)) (m || !(impL p (slackC c p) c.terms).isEmpty)
def prop : Nat → List Con → List Int → List Int × Int
  | 0, _, p => (p, -1)
  | n + 1, cs, p => match pass cs 0 p false with
    | .conf p' i => (p', (i : Int))
    | .go p' m => if m then prop n cs p' else (p', -1)
def zer (p : List Int) : Nat := p.countP (· == 0)
theorem zer_set (p : List Int) (k : Nat) (x : Int) (hk : k < p.length) (hx : x ≠ 0) : zer (p.set k x) + (if p.getD k 0 = 0 then 1 else 0) = zer p := by
  unfold zer
  induction p generalizing k with
  | nil => simp at hk
  | cons a p ih =>
    cases k with
    | zero => simp only [List.set_cons_zero, List.countP_cons, List.getD_cons_zero]; simp [hx]
    | succ k =>
      have := ih k (by simpa using hk)
      simp only [List.set_cons_succ, List.countP_cons, List.getD_cons_succ]
      omega
theorem zer_asg {p : List Int} (hp : okP p) {l : Int} (hl : lit12 l) : zer (asg p l) ≤ zer p ∧ (stt p l = 0 → zer (asg p l) < zer p) := by
  obtain ⟨h0, h1, h2⟩ := hl
  unfold asg stt
  split
  · have := zer_set p (l - 1).toNat 1 (by rw [hp.1]; omega) (by omega)
    constructor
    · omega
    · intro h; rw [if_pos h] at this; omega
  · have := zer_set p (-l - 1).toNat (-1) (by rw [hp.1]; omega) (by omega)
    constructor
    · omega
    · intro h; rw [if_pos (by omega)] at this; omega
theorem zer_asgL : ∀ (ls : List Int) {p : List Int}, okP p → (∀ l ∈ ls, lit12 l) → zer (asgL p ls) ≤ zer p
  | [], p, _, _ => Nat.le_refl _
  | l :: ls, p, hp, h => Nat.le_trans (zer_asgL ls (asg_ok hp l) fun x hx => h x (by simp [hx])) (zer_asg hp (h l (by simp))).1
theorem impL_lit {p : List Int} {c : Con} (hc : okCon c = true) {sl : Int} : ∀ l ∈ impL p sl c.terms, lit12 l := by
  intro l hl
  obtain ⟨t, ht, rfl, _, _⟩ := impL_mem hl
  exact okT_lit12 ((okCon_parts hc).2.2.1 t ht)
theorem zer_imp {p : List Int} (hp : okP p) {c : Con} (hc : okCon c = true) {sl : Int} (hn : impL p sl c.terms ≠ []) : zer (asgL p (impL p sl c.terms)) < zer p := by
  have hl := impL_lit (p := p) hc (sl := sl)
  cases h : impL p sl c.terms with
  | nil => exact absurd h hn
  | cons l ls =>
    rw [h] at hl
    obtain ⟨t, ht, _, h0, _⟩ := impL_mem (l := l) (by rw [h]; simp)
    have := zer_asgL ls (asg_ok hp l) fun x hx => hl x (by simp [hx])
    have := (zer_asg hp (hl l (by simp))).2 h0
    show zer (asgL (asg p l) ls) < _
    omega
/-- a pass that changes something lowers the number of gaps -/
theorem pass_zer : ∀ (cs : List Con) (i : Nat) (p : List Int) (m : Bool), okP p → (∀ c ∈ cs, okCon c = true) → ∀ p' m', pass cs i p m = .go p' m' → okP p' ∧ zer p' ≤ zer p ∧ (m' = true → m = true ∨ zer p' < zer p)
  | [], i, p, m, hp, _, p', m', h => by
    cases h
    exact ⟨hp, Nat.le_refl _, fun h => .inl h⟩
  | c :: cs, i, p, m, hp, hc, p', m', h => by
    rw [pass] at h
    split at h
    · cases h
    · have hcc := hc c (by simp)
      obtain ⟨g1, g2, g3⟩ := pass_zer cs _ _ _ (asgL_ok _ hp) (fun x hx => hc x (by simp [hx])) p' m' h
      have hz := zer_asgL (impL p (slackC c p) c.terms) hp (impL_lit hcc)
      refine ⟨g1, by omega, fun hm => ?_⟩
      rcases g3 hm with h1 | h1
      · rw [Bool.or_eq_true] at h1
        rcases h1 with h1 | h1
        · exact .inl h1
        · refine .inr ?_
          have := zer_imp hp hcc (sl := slackC c p) (by intro e; rw [e] at h1; simp at h1)
          omega
      · exact .inr (by omega)
theorem asgL_leP : ∀ (ls : List Int) {p q : List Int}, okP p → LeP p q → (∀ l ∈ ls, lit12 l ∧ stt q l = 1) → LeP (asgL p ls) q
  | [], _, _, _, h, _ => h
  | l :: ls, _, _, hp, h, hl => asgL_leP ls (asg_ok hp l) (asg_leP hp h (hl l (by simp)).1 (hl l (by simp)).2) fun x hx => hl x (by simp [hx])
/-- below a closed assignment nothing is violated -/
theorem pass_closed {q : List Int} (hq : okP q) : ∀ (cs : List Con) (i : Nat) (p : List Int) (m : Bool), okP p → LeP p q → (∀ c ∈ cs, okCon c = true ∧ Closed q c) → ∃ p' m', pass cs i p m = .go p' m' ∧ okP p' ∧ LeP p' q
  | [], i, p, m, hp, hle, _ => ⟨p, m, rfl, hp, hle⟩
  | c :: cs, i, p, m, hp, hle, hc => by
    obtain ⟨h1, h2⟩ := hc c (by simp)
    have hs := slack_mono hp hq hle h1
    have := h2.1
    rw [pass, if_neg (by omega)]
    exact pass_closed hq cs _ _ _ (asgL_ok _ hp) (asgL_leP _ hp hle fun l hl => imp_closed hp hq hle h1 h2 hl) fun x hx => hc x (by simp [hx])
theorem prop_closed {q : List Int} (hq : okP q) {cs : List Con} (hc : ∀ c ∈ cs, okCon c = true ∧ Closed q c) : ∀ (n : Nat) (p : List Int), okP p → LeP p q → ∃ p', prop n cs p = (p', -1) ∧ okP p' ∧ LeP p' q
  | 0, p, hp, hle => ⟨p, rfl, hp, hle⟩
  | n + 1, p, hp, hle => by
    obtain ⟨p', m', e, h1, h2⟩ := pass_closed hq cs 0 p false hp hle hc
    rw [prop, e]
    cases m' with
    | true => exact prop_closed hq hc n p' h1 h2
    | false => exact ⟨p', rfl, h1, h2⟩
theorem stt_asg {p : List Int} (hp : okP p) {l : Int} (hl : lit12 l) {k : Int} (hk : lit12 k) : stt (asg p l) k = if absI k = absI l then (if k = l then 1 else -1) else stt p k := by
  obtain ⟨h0, h1, h2⟩ := hl
  obtain ⟨k0, k1, k2⟩ := hk
  unfold asg stt absI
  split
  all_goals
    split
    all_goals
      rw [getD_set _ _ _ _ (by rw [hp.1]; omega)]
      split
      · split
        · split <;> omega
        · omega
      · split
        · omega
        · rfl
/-- a pass that changes nothing: all is closed -/
theorem pass_noop : ∀ (cs : List Con) (i : Nat) (p : List Int) (m : Bool) (p' : List Int), pass cs i p m = .go p' false → m = false ∧ p' = p ∧ ∀ c ∈ cs, Closed p c
  | [], i, p, m, p', h => by
    cases h
    exact ⟨rfl, rfl, fun _ h => by cases h⟩
  | c :: cs, i, p, m, p', h => by
    rw [pass] at h
    split at h
    · cases h
    · rename_i hs
      obtain ⟨g1, g2, g3⟩ := pass_noop cs _ _ _ p' h
      rw [Bool.or_eq_false_iff] at g1
      have e : impL p (slackC c p) c.terms = [] := by
        have := g1.2
        cases h : impL p (slackC c p) c.terms with
        | nil => rfl
        | cons x xs => rw [h] at this; simp at this
      rw [e] at g2 g3
      refine ⟨g1.1, g2, fun x hx => ?_⟩
      rcases List.mem_cons.1 hx with rfl | hx
      · exact ⟨by omega, e⟩
      · exact g3 x hx
theorem prop_fix {cs : List Con} (hc : ∀ c ∈ cs, okCon c = true) : ∀ (n : Nat) (p : List Int), okP p → zer p < n → ∀ p', prop n cs p = (p', -1) → okP p' ∧ ∀ c ∈ cs, Closed p' c
  | 0, p, _, hz, _, _ => by omega
  | n + 1, p, hp, hz, p', h => by
    rw [prop] at h
    cases hpa : pass cs 0 p false with
    | conf p1 i => rw [hpa] at h; simp only [Prod.mk.injEq] at h; omega
    | go p1 m1 =>
      rw [hpa] at h
      obtain ⟨g1, g2, g3⟩ := pass_zer cs 0 p false hp hc p1 m1 hpa
      cases m1 with
      | true =>
        simp only [if_true] at h
        refine prop_fix hc n p1 g1 ?_ p' h
        rcases g3 rfl with h | h
        · cases h
        · omega
      | false =>
        obtain ⟨_, rfl, h3⟩ := pass_noop cs 0 p false p1 hpa
        simp at h
        subst h
        exact ⟨g1, h3⟩
end Go.L
