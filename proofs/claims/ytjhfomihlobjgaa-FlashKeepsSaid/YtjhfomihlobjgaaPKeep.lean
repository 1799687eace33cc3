/-
  Plain law: what is read on flash behind an append. Nothing of the program stands here.
-/
import Derived.Test.YtjhfomihlobjgaaPRecs
import Derived.Test.YtjhfomihlobjgaaPApp
namespace Go.Proofs.Ytjhfomihlobjgaa.D
theorem rec_len (s : Str) : (recordOf s).length = 3 + s.length := by unfold recordOf; simp; omega
theorem lenAt_app {b r : Str} {k : Nat} (h : k < b.length) : lenAt (b ++ r) k = lenAt b k := by
  unfold lenAt; simp [List.getD_eq_getElem?_getD, List.getElem?_append_left h]
theorem getD_app {b r : Str} {k : Nat} (h : k < b.length) : (b ++ r).getD k 0 = b.getD k 0 := by
  simp [List.getD_eq_getElem?_getD, List.getElem?_append_left h]
theorem valAt_app {b r : Str} {k : Nat} (h : k < b.length) (h2 : k + 3 + lenAt b k ≤ b.length) : valAt (b ++ r) k = valAt b k := by
  unfold valAt
  rw [lenAt_app h, List.drop_append_of_le_length (by omega), List.take_append_of_le_length (by simp; omega)]
theorem recB_app {b r : Str} {k : Nat} (h : k < b.length) (h2 : k + 3 + lenAt b k ≤ b.length) : recB (b ++ r) k = recB b k := by
  unfold recB
  rw [lenAt_app h, valAt_app h h2, getD_app (show k + 1 < b.length by omega), getD_app (show k + 2 < b.length by omega), decide_eq_decide]
  constructor
  · rintro ⟨_, h4, h5⟩; exact ⟨h2, h4, h5⟩
  · rintro ⟨_, h4, h5⟩; exact ⟨by simp; omega, h4, h5⟩
theorem lenAt_rec (b s : Str) (hs : s.length ≤ 200) : lenAt (b ++ recordOf s) b.length = s.length := by
  unfold lenAt recordOf
  simp [List.getD_eq_getElem?_getD]
  omega
theorem valAt_rec (b s : Str) (hs : s.length ≤ 200) : valAt (b ++ recordOf s) b.length = s := by
  unfold valAt
  rw [lenAt_rec b s hs, List.drop_append, List.drop_eq_nil_of_le (by omega), List.nil_append, show b.length + 3 - b.length = 3 by omega]
  unfold recordOf
  simp
theorem recB_rec (b s : Str) (hs : s.length ≤ 200) : recB (b ++ recordOf s) b.length = true := by
  have h1 := lenAt_rec b s hs
  have h2 := valAt_rec b s hs
  rw [rec_raw (by rw [h1, List.length_append, rec_len]; omega) (by omega), decide_eq_true_eq, h2]
  unfold rawAt
  rw [h1, List.drop_append, List.drop_eq_nil_of_le (by omega), List.nil_append, Nat.sub_self, List.drop_zero, List.take_of_length_le (by rw [rec_len]; omega)]
theorem find_app {b s : Str} (hs : s.length ≤ 200) (q : Int) (k : Nat) (h : allRec b k = true) (hk : k ≤ b.length) :
    findRec (b ++ recordOf s) k q = if q = (b.length : Int) then some s else findRec b k q := by
  have hl := rec_len s
  induction hn : b.length - k using Nat.strongRecOn generalizing k with
  | ind n ih =>
    by_cases hkl : k < b.length
    · rw [allRec_step hkl, Bool.and_eq_true] at h
      have hr := recB_le h.1
      by_cases e : (k : Int) = q
      · rw [findRec_hit (by simp; omega) e, findRec_hit hkl e, valAt_app hkl hr.1, if_neg (by omega)]
      · rw [findRec_miss (by simp; omega) e, findRec_miss hkl e, lenAt_app hkl]
        exact ih _ (by omega) _ h.2 hr.1 rfl
    · obtain rfl : k = b.length := by omega
      rw [findRec_end (b := b) (Nat.le_refl _)]
      by_cases e : (b.length : Int) = q
      · rw [findRec_hit (by simp; omega) e, valAt_rec b s hs, if_pos e.symm]
      · rw [findRec_miss (by simp; omega) e, lenAt_rec b s hs, findRec_end (by simp; omega), if_neg (fun x => e x.symm)]
theorem all_app {b s : Str} (hs : s.length ≤ 200) (k : Nat) (h : allRec b k = true) (hk : k ≤ b.length) : allRec (b ++ recordOf s) k = true := by
  have hl := rec_len s
  induction hn : b.length - k using Nat.strongRecOn generalizing k with
  | ind n ih =>
    by_cases hkl : k < b.length
    · rw [allRec_step hkl, Bool.and_eq_true] at h
      have hr := recB_le h.1
      rw [allRec_step (by simp; omega), recB_app hkl hr.1, h.1, lenAt_app hkl, Bool.true_and]
      exact ih _ (by omega) _ h.2 hr.1 rfl
    · obtain rfl : k = b.length := by omega
      rw [allRec_step (by simp; omega), recB_rec b s hs, lenAt_rec b s hs, allRec_end (by simp; omega)]; rfl
/-- what is read at a place -/
def rdL (l : List Page) (q : Place) : Option Str := match l.find? (fun p => p.number == q.page) with
  | none => none
  | some p => findRec p.bytes 0 q.off
def Flash.rd (f : Flash) (q : Place) : Option Str := rdL f.pages q
theorem pagesOK_app (a b : List Page) (n : Int) : pagesOK (a ++ b) n = (pagesOK a n && pagesOK b (n + a.length)) := by
  induction a generalizing n with
  | nil => simp [pagesOK]
  | cons p r ih => rw [List.cons_append, pagesOK_cons, pagesOK_cons, ih, List.length_cons, show n + 1 + (r.length : Int) = n + ((r.length + 1 : Nat) : Int) by omega]; simp [Bool.and_assoc]
theorem pages_num {l : List Page} {n : Int} (h : pagesOK l n = true) : ∀ p ∈ l, n ≤ p.number ∧ p.number < n + l.length ∧ 1 ≤ p.number ∧ allRec p.bytes 0 = true ∧ 1 ≤ p.bytes.length ∧ p.bytes.length ≤ 256 := by
  induction l generalizing n with
  | nil => simp
  | cons p r ih =>
    rw [pagesOK_cons, Bool.and_eq_true, Bool.and_eq_true, decide_eq_true_eq] at h
    obtain ⟨⟨⟨h1, h2, h3, h4⟩, h5⟩, h6⟩ := h
    intro x hx
    rcases List.mem_cons.1 hx with rfl | hx
    · exact ⟨by omega, by simp; omega, by omega, h5, h3, h4⟩
    · obtain ⟨g1, g2, g3, g4⟩ := ih h6 x hx
      exact ⟨by omega, by simp; omega, g3, g4⟩
theorem rdL_none {l : List Page} {q : Place} (h : ∀ p ∈ l, p.number ≠ q.page) : rdL l q = none := by
  unfold rdL
  rw [List.find?_eq_none.2 (fun p hp => by simpa using h p hp)]
theorem rdL_snoc {l : List Page} {p : Page} {n : Int} (h : pagesOK l n = true) (hp : p.number = n + l.length) (q : Place) :
    rdL (l ++ [p]) q = if q.page = p.number then findRec p.bytes 0 q.off else rdL l q := by
  by_cases e : q.page = p.number
  · rw [if_pos e]
    unfold rdL
    rw [List.find?_append, List.find?_eq_none.2 (fun x hx => by have := pages_num h x hx; simp; omega)]
    simp [e]
  · rw [if_neg e]
    unfold rdL
    rw [List.find?_append]
    have : ([p].find? fun x => x.number == q.page) = none := by simp; intro h; exact e h.symm
    rw [this, Option.or_none]
theorem rdL_tail {p : Page} {l : List Page} {n : Int} (h : pagesOK (p :: l) n = true) (q : Place) : rdL l q = if q.page = p.number then none else rdL (p :: l) q := by
  rw [pagesOK_cons, Bool.and_eq_true, Bool.and_eq_true, decide_eq_true_eq] at h
  by_cases e : q.page = p.number
  · rw [if_pos e]
    exact rdL_none (fun x hx => by have := pages_num h.2 x hx; omega)
  · rw [if_neg e]
    unfold rdL
    rw [List.find?_cons_of_neg (by simp; exact fun h => e h.symm)]
theorem find_rec0 {s : Str} (hs : s.length ≤ 200) (q : Int) : findRec (recordOf s) 0 q = if q = 0 then some s else none := by
  have := find_app (b := []) hs q 0 (by rw [allRec_end (by simp)]) (by simp)
  rw [findRec_end (b := []) (by simp)] at this
  simpa using this
theorem all_rec0 {s : Str} (hs : s.length ≤ 200) : allRec (recordOf s) 0 = true := by
  have := all_app (b := []) hs 0 (by rw [allRec_end (by simp)]) (by simp)
  simpa using this
theorem fok_parts {f : Flash} (h : f.ok = true) : (0 ≤ f.most ∧ f.most ≤ 20 ∧ (f.pages.length : Int) ≤ f.most ∧ 1 ≤ f.next ∧ f.next ≤ maxN) ∧ pagesOK f.pages (f.next - f.pages.length) = true := by
  unfold Flash.ok at h
  rw [Bool.and_eq_true, decide_eq_true_eq] at h
  exact h
theorem ok_mk {f : Flash} (h : 0 ≤ f.most ∧ f.most ≤ 20 ∧ (f.pages.length : Int) ≤ f.most ∧ 1 ≤ f.next ∧ f.next ≤ maxN) (h2 : pagesOK f.pages (f.next - f.pages.length) = true) : f.ok = true := by
  unfold Flash.ok
  rw [Bool.and_eq_true, decide_eq_true_eq]
  exact ⟨h, h2⟩
theorem place_eq {q : Place} {a b : Int} (h1 : q.page = a) (h2 : q.off = b) : q = ⟨a, b⟩ := by
  obtain ⟨x, y⟩ := q
  simp only at h1 h2
  rw [h1, h2]
theorem place_off {q : Place} {a b : Int} (h : q.off ≠ b) : ¬ q = ⟨a, b⟩ := fun e => h (by rw [e])
theorem place_page {q : Place} {a b : Int} (h : q.page ≠ a) : ¬ q = ⟨a, b⟩ := fun e => h (by rw [e])
/-- what an append does -/
structure Appended (f g : Flash) (s : Str) (p : Place) (gone : Int) : Prop where
  ok : g.ok = true
  most : g.most = f.most
  next : g.next ≤ f.next + 1
  new : f.rd p = none
  rd : ∀ q, g.rd q = if q = p then some s else if q.page = gone then none else f.rd q
  page : 1 ≤ p.page ∧ 0 ≤ p.off
theorem append_is {f : Flash} {s : Str} (h : f.ok = true) (hs : s.length ≤ 200) (hm : f.most ≠ 0) (hn : f.next ≠ maxN) :
    ∃ g p gone, f.append s = (g, p, gone, 0) ∧ Appended f g s p gone := by
  obtain ⟨⟨a1, a2, a3, a4, a5⟩, a6⟩ := fok_parts h
  have ha := append_good (s := s) h (by omega) (by simp [hm, hn])
  have hzero : ∀ q : Place, q.page = 0 → f.rd q = none := fun q hq => rdL_none (fun p hp => by have := pages_num a6 p hp; omega)
  have hnew : ∀ q : Place, q.page = f.next → f.rd q = none := fun q hq => rdL_none (fun p hp => by have := pages_num a6 p hp; omega)
  refine ⟨_, _, _, ha, ?_⟩
  cases hf : f.fits s.length
  · by_cases hl : (f.pages.length : Int) = f.most
    · rw [prep_shift hf hl]
      cases hp : f.pages with
      | nil => rw [hp] at hl; simp at hl; omega
      | cons p0 r =>
        have hN : maxN = 1099511627776 := rfl
        rw [hp, List.length_cons] at a6 a3 hl
        have e0 : (f.next - ((r.length + 1 : Nat) : Int)) + 1 = f.next - r.length := by omega
        have a6' := a6
        rw [pagesOK_cons, e0, Bool.and_eq_true, Bool.and_eq_true, decide_eq_true_eq] at a6'
        have hr := a6'.2
        have hp0 := a6'.1.1.1
        have hgl : r.length + 1 = (r ++ [(⟨f.next, recordOf s⟩ : Page)]).length := by simp
        refine ⟨?_, rfl, by simp, hnew _ rfl, fun q => ?_, by simpa using a4⟩
        · refine ok_mk ⟨a1, a2, by simp; omega, by simp; omega, by simp; omega⟩ ?_
          simp only [List.nil_append, List.tail_cons]
          rw [pagesOK_app, ← hgl, show f.next + 1 - ((r.length + 1 : Nat) : Int) = f.next - r.length by omega, hr, Bool.true_and, show f.next - (r.length : Int) + r.length = f.next by omega]
          rw [pagesOK_cons, all_rec0 hs]
          simp [rec_len, pagesOK]
          omega
        · show rdL (r ++ [⟨f.next, recordOf s⟩]) q = if q = ⟨f.next, 0⟩ then some s else if q.page = p0.number then none else rdL f.pages q
          rw [rdL_snoc hr (show f.next = f.next - (r.length : Int) + r.length by omega), rdL_tail a6, find_rec0 hs, hp]
          simp only
          by_cases e1 : q.page = f.next
          · rw [if_pos e1]
            have e3 : ¬ q.page = p0.number := by omega
            by_cases e2 : q.off = 0
            · rw [if_pos e2, if_pos (place_eq e1 e2)]
            · have hx := hnew q e1
              unfold Flash.rd at hx
              rw [hp] at hx
              rw [if_neg e2, if_neg (place_off e2), if_neg e3, hx]
          · rw [if_neg e1, if_neg (place_page e1)]
    · rw [prep_new hf hl]
      have hgl : f.pages.length + 1 = (f.pages ++ [(⟨f.next, recordOf s⟩ : Page)]).length := by simp
      have hN : maxN = 1099511627776 := rfl
      refine ⟨?_, rfl, by simp, hnew _ rfl, fun q => ?_, by simpa using a4⟩
      · refine ok_mk ⟨a1, a2, by simp; omega, by simp; omega, by simp; omega⟩ ?_
        simp only [List.nil_append]
        rw [pagesOK_app, ← hgl, show f.next + 1 - ((f.pages.length + 1 : Nat) : Int) = f.next - f.pages.length by omega, a6, Bool.true_and, show f.next - (f.pages.length : Int) + f.pages.length = f.next by omega]
        rw [pagesOK_cons, all_rec0 hs]
        simp [rec_len, pagesOK]
        omega
      · show rdL (f.pages ++ [⟨f.next, recordOf s⟩]) q = if q = ⟨f.next, 0⟩ then some s else if q.page = 0 then none else rdL f.pages q
        rw [rdL_snoc a6 (show f.next = f.next - (f.pages.length : Int) + f.pages.length by omega), find_rec0 hs]
        simp only
        by_cases e1 : q.page = f.next
        · rw [if_pos e1]
          by_cases e2 : q.off = 0
          · rw [if_pos e2, if_pos (place_eq e1 e2)]
          · have hx := hnew q e1
            unfold Flash.rd at hx
            rw [if_neg e2, if_neg (place_off e2), if_neg (by omega), hx]
        · rw [if_neg e1, if_neg (place_page e1)]
          by_cases e0 : q.page = 0
          · rw [if_pos e0]; exact hzero q e0
          · rw [if_neg e0]
  · obtain ⟨fr, num, by', hp, hlen, hpr⟩ := fits_split hf
    rw [hpr]
    have hN : maxN = 1099511627776 := rfl
    have a6' : pagesOK (fr ++ [⟨num, by'⟩]) (f.next - f.pages.length) = true := by rw [← hp]; exact a6
    rw [pagesOK_app, Bool.and_eq_true, pagesOK_cons, Bool.and_eq_true, Bool.and_eq_true, decide_eq_true_eq] at a6'
    obtain ⟨b1, ⟨⟨b2, b3, b4, b5⟩, b6⟩, _⟩ := a6'
    have hpl : f.pages.length = fr.length + 1 := by rw [hp]; simp
    simp only at b2 b3 b4 b5 b6
    refine ⟨?_, rfl, by simp only; omega, ?_, fun q => ?_, ⟨by simp only; omega, by simp only; omega⟩⟩
    · refine ok_mk ⟨a1, a2, by simp; omega, by simp only; omega, by simp only; omega⟩ ?_
      simp only
      have hgl : (fr ++ [(⟨num, by' ++ recordOf s⟩ : Page)]).length = f.pages.length := by rw [hpl]; simp
      rw [hgl, pagesOK_app, b1, Bool.true_and, pagesOK_cons, all_app hs 0 b6 (by omega)]
      simp [rec_len, pagesOK]
      omega
    · unfold Flash.rd
      rw [hp, rdL_snoc b1 b2, if_pos rfl]
      have := find_app (b := by') hs (by'.length : Int) 0 b6 (by omega)
      simp only
      rw [findRec_recs]
      rw [List.find?_eq_none.2 (fun x hx => by have := (recs_good b6 x hx).2; simp; omega)]
      rfl
    · show rdL (fr ++ [⟨num, by' ++ recordOf s⟩]) q = if q = ⟨num, by'.length⟩ then some s else if q.page = 0 then none else rdL f.pages q
      rw [rdL_snoc b1 (show num = f.next - (f.pages.length : Int) + fr.length from b2), hp, rdL_snoc b1 b2, find_app hs q.off 0 b6 (by omega)]
      simp only
      by_cases e1 : q.page = num
      · rw [if_pos e1, if_pos e1]
        by_cases e2 : q.off = (by'.length : Int)
        · rw [if_pos e2, if_pos (place_eq e1 e2)]
        · rw [if_neg e2, if_neg (place_off e2), if_neg (by omega)]
      · rw [if_neg e1, if_neg e1, if_neg (place_page e1)]
        by_cases e0 : q.page = 0
        · rw [if_pos e0]
          have hx := hzero q e0
          unfold Flash.rd at hx
          rw [hp, rdL_snoc b1 b2, if_neg e1] at hx
          exact hx
        · rw [if_neg e0]
/-- where something is read there is a page, and a place on it -/
theorem rd_some {f : Flash} (h : f.ok = true) {q : Place} {s : Str} (hq : f.rd q = some s) : ∃ i, ∃ hi : i < f.pages.length, f.pages[i].number = q.page ∧ 0 ≤ q.off ∧ q.off < 256 ∧ findRec f.pages[i].bytes 0 q.off = some s := by
  obtain ⟨_, a6⟩ := fok_parts h
  unfold Flash.rd rdL at hq
  cases hp : f.pages.find? (fun p => p.number == q.page) with
  | none => rw [hp] at hq; cases hq
  | some p =>
    rw [hp] at hq
    simp only at hq
    have hm := List.mem_of_find?_eq_some hp
    have hn := List.find?_some hp
    obtain ⟨i, hi, rfl⟩ := List.mem_iff_getElem.1 hm
    have h5 := pages_num a6 _ hm
    refine ⟨i, hi, by simpa using hn, ?_⟩
    have hq' := hq
    rw [findRec_recs] at hq
    obtain ⟨r, hr, hr2⟩ := Option.map_eq_some_iff.1 hq
    have h6 := recs_good h5.2.2.2.1 r (List.mem_of_find?_eq_some hr)
    have h7 : (r.1 : Int) = q.off := by simpa using List.find?_some hr
    exact ⟨by omega, by omega, hq'⟩
theorem read_rd {f : Flash} (h : f.ok = true) {q : Place} {i : Nat} (hi : i < f.pages.length) (hn : f.pages[i].number = q.page) :
    f.read q = match f.rd q with | some s => (s, 0) | none => ([], 2) := by
  unfold Flash.read Flash.rd rdL Flash.pageOf
  rw [if_neg (by rw [h]; simp)]
  cases hp : f.pages.find? (fun p => p.number == q.page) with
  | none => exact absurd hn (by simpa using List.find?_eq_none.1 hp _ (List.getElem_mem hi))
  | some p => simp only; split <;> rename_i x <;> rw [x]
theorem read_zero {f : Flash} (h : f.ok = true) : f.read ⟨0, 0⟩ = ([], 6) := by
  obtain ⟨_, a6⟩ := fok_parts h
  unfold Flash.read Flash.pageOf
  rw [if_neg (by rw [h]; simp), List.find?_eq_none.2 (fun p hp => by have := pages_num a6 p hp; simp; omega)]
end Go.Proofs.Ytjhfomihlobjgaa.D
