/-
  Counting a map's entries by striking them one by one: on data alone.
-/
import Derived.Test.YtjhfomihlobjgaaCMapIs
namespace Go.Proofs.Ytjhfomihlobjgaa.D
open Go.RowKit Go.Maps
/-- what is left of D once the places of V are struck, and how many were there -/
structure Struck (D D' : DataW Unit) (V : Place → Prop) (cnt : Nat) : Prop where
  tidy : Tidy D'
  lits : ∃ es, D' = .map es ∧ ∀ p ∈ es, WideAt.IsKeyLit p.1
  less : ∀ kl, Maps.has D' kl = true → Maps.has D kl = true ∧ ∀ q : Place, I64 q.page → I64 q.off → V q → kl ≠ klOf q
  keep : ∀ q : Place, I64 q.page → I64 q.off → ¬ V q → Maps.has D' (klOf q) = Maps.has D (klOf q)
  size : cnt + Maps.size D' = Maps.size D
theorem Struck.start {D : DataW Unit} (h : Tidy D) (hl : ∃ es, D = .map es ∧ ∀ p ∈ es, WideAt.IsKeyLit p.1) : Struck D D (fun _ => False) 0 := ⟨h, hl, fun _ hk => ⟨hk, fun _ _ _ hv => hv.elim⟩, fun _ _ _ _ => rfl, by omega⟩
theorem Struck.cong {D D' : DataW Unit} {V V' : Place → Prop} {cnt : Nat} (h : Struck D D' V cnt) (h1 : ∀ q, V q → V' q) (h2 : ∀ q : Place, I64 q.page → I64 q.off → V' q → V q ∨ Maps.has D (klOf q) = false) : Struck D D' V' cnt :=
  ⟨h.tidy, h.lits, fun kl hk => ⟨(h.less kl hk).1, fun q q1 q2 hv => by
    rcases h2 q q1 q2 hv with hv | hv
    · exact (h.less kl hk).2 q q1 q2 hv
    · intro e
      have := (h.less kl hk).1
      rw [e, hv] at this
      cases this⟩, fun q q1 q2 hv => h.keep q q1 q2 (fun x => hv (h1 q x)), h.size⟩
theorem Struck.hit {D D' : DataW Unit} {V : Place → Prop} {cnt : Nat} (h : Struck D D' V cnt) (p : Place) (p1 : I64 p.page) (p2 : I64 p.off) (hv : ¬ V p) (hp : Maps.has D (klOf p) = true) : Struck D (D'.del (klOf p)) (fun q => V q ∨ q = p) (cnt + 1) := by
  have hk := (h.keep p p1 p2 hv).trans hp
  refine ⟨h.tidy.del _, ?_, fun kl hkl => ?_, fun q q1 q2 hq => ?_, ?_⟩
  · obtain ⟨es, he, hl⟩ := h.lits
    subst he
    exact ⟨_, rfl, fun p hp => hl p (List.mem_filter.1 hp).1⟩
  · by_cases e : kl = klOf p
    · rw [e, has_del_same] at hkl; cases hkl
    · rw [has_del_other e] at hkl
      refine ⟨(h.less kl hkl).1, fun q q1 q2 hq => ?_⟩
      rcases hq with hq | rfl
      · exact (h.less kl hkl).2 q q1 q2 hq
      · exact e
  · have hne : q ≠ p := fun e => hq (.inr e)
    rw [has_del_other (fun x => hne (kl_inj q1 q2 p1 p2 x))]
    exact h.keep q q1 q2 (fun x => hq (.inl x))
  · have := size_del (k := klOf p) h.tidy
    rw [hk] at this
    simp only [if_true] at this
    have := h.size
    omega
theorem Struck.miss {D D' : DataW Unit} {V : Place → Prop} {cnt : Nat} (h : Struck D D' V cnt) (p : Place) (hp : Maps.has D (klOf p) = false) : Struck D D' (fun q => V q ∨ q = p) cnt :=
  h.cong (fun q hq => .inl hq) (fun q _ _ hq => by
    rcases hq with hq | rfl
    · exact .inl hq
    · exact .inr hp)
theorem Struck.none {D D' : DataW Unit} {V : Place → Prop} {cnt : Nat} (h : Struck D D' V cnt) (hn : ∀ kl, Maps.has D' kl = false) : cnt = Maps.size D := by
  have hs := h.size
  obtain ⟨es, rfl, hl⟩ := h.lits
  cases es with
  | nil => rw [size_eq] at hs; simpa using hs
  | cons x r =>
    have := hn x.1
    rw [has_eq, List.any_cons, WideAt.sameKey_self (hl _ (by simp))] at this
    cases this
/-- the places that have been looked at: whole pages, and the first ones of the next page -/
def visited (f : Flash) (pi a : Nat) (q : Place) : Prop := (∃ i, ∃ h : i < f.pages.length, i < pi ∧ f.pages[i].number = q.page) ∨ (∃ h : pi < f.pages.length, f.pages[pi].number = q.page ∧ 0 ≤ q.off ∧ q.off < (a : Int))
theorem pages_at {l : List Page} {n : Int} (h : pagesOK l n = true) : ∀ i, ∀ hi : i < l.length, l[i].number = n + i := by
  induction l generalizing n with
  | nil => intro i hi; simp at hi
  | cons p r ih =>
    rw [pagesOK_cons, Bool.and_eq_true, Bool.and_eq_true, decide_eq_true_eq] at h
    intro i hi
    cases i with
    | zero => simpa using h.1.1.1
    | succ i =>
      have := ih h.2 i (by simpa using hi)
      simp only [List.getElem_cons_succ]
      rw [this]; omega
theorem num_at {f : Flash} (hok : f.ok = true) (i : Nat) (hi : i < f.pages.length) : f.pages[i].number = f.next - f.pages.length + i := pages_at (fok_parts hok).2 i hi
/-- one place more of a page -/
theorem visited_step {f : Flash} {pi a : Nat} (hp : pi < f.pages.length) (q : Place) : visited f pi (a + 1) q ↔ visited f pi a q ∨ q = ⟨f.pages[pi].number, a⟩ := by
  unfold visited
  constructor
  · rintro (h | ⟨_, h1, h2, h3⟩)
    · exact .inl (.inl h)
    · by_cases e : q.off = (a : Int)
      · exact .inr (place_eq h1.symm e)
      · exact .inl (.inr ⟨hp, h1, h2, by omega⟩)
  · rintro ((h | ⟨_, h1, h2, h3⟩) | rfl)
    · exact .inl h
    · exact .inr ⟨hp, h1, h2, by omega⟩
    · exact .inr ⟨hp, rfl, by simp, by simp; omega⟩
theorem visited_no {f : Flash} (hok : f.ok = true) {pi a : Nat} (hp : pi < f.pages.length) : ¬ visited f pi a ⟨f.pages[pi].number, a⟩ := by
  rintro (⟨i, hi, hlt, hn⟩ | ⟨_, _, _, h3⟩)
  · have := num_at hok i hi
    have h2 := num_at hok pi hp
    simp only at hn
    omega
  · simp only at h3; omega
/-- a whole page: no value lies behind its bytes -/
theorem visited_page {f : Flash} (hok : f.ok = true) {D : DataW Unit} (hM : MapIs D f.rd) {pi : Nat} (hp : pi < f.pages.length) :
    (∀ q, visited f pi 257 q → visited f (pi + 1) 0 q) ∧ ∀ q : Place, I64 q.page → I64 q.off → visited f (pi + 1) 0 q → visited f pi 257 q ∨ Maps.has D (klOf q) = false := by
  constructor
  · rintro q (⟨i, hi, hlt, hn⟩ | ⟨_, h1, _, _⟩)
    · exact .inl ⟨i, hi, by omega, hn⟩
    · exact .inl ⟨pi, hp, by omega, h1⟩
  · rintro q q1 q2 (⟨i, hi, hlt, hn⟩ | ⟨_, _, h2, h3⟩)
    · by_cases e : i < pi
      · exact .inl (.inl ⟨i, hi, e, hn⟩)
      · obtain rfl : i = pi := by omega
        rw [hM.has q q1 q2]
        cases hr : f.rd q with
        | none => exact .inr rfl
        | some s =>
          obtain ⟨_, _, _, h4, h5, _⟩ := rd_some hok hr
          exact .inl (.inr ⟨hi, hn, h4, by omega⟩)
    · omega
theorem visited_all {f : Flash} (hok : f.ok = true) {D D' : DataW Unit} (hM : MapIs D f.rd) {cnt : Nat} (h : Struck D D' (visited f f.pages.length 0) cnt) : cnt = Maps.size D := by
  refine h.none (fun kl => ?_)
  cases hk : Maps.has D' kl with
  | false => rfl
  | true =>
    obtain ⟨h1, h2⟩ := h.less kl hk
    obtain ⟨q, rfl, q1, q2⟩ := hM.key kl h1
    rw [hM.has q q1 q2] at h1
    cases hr : f.rd q with
    | none => rw [hr] at h1; cases h1
    | some s =>
      obtain ⟨i, hi, h3, _⟩ := rd_some hok hr
      exact absurd rfl (h2 q q1 q2 (.inl ⟨i, hi, hi, h3⟩))
end Go.Proofs.Ytjhfomihlobjgaa.D
