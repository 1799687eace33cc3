/-
  Flash in memory of the call's own: a row of pages, each with a row of bytes. Lemmas on worlds alone.
-/
import Derived.Test.YtjhfomihlobjgaaCClone
namespace Go.Proofs.Ytjhfomihlobjgaa.D
open Go.RowKit

/-- the cells of pages, their bytes at these values -/
def pageCells : List Page → List Value → List Value
  | p :: ps, v :: vs => .int .i64 p.number :: v :: pageCells ps vs
  | _, _ => []
theorem pageCells_length : ∀ (ps : List Page) (vs : List Value), vs.length = ps.length → (pageCells ps vs).length = ps.length * 2
  | [], [], _ => rfl
  | p :: ps, v :: vs, h => by
    have := pageCells_length ps vs (by simpa using h)
    simp only [pageCells, List.length_cons, this]; omega
  | [], v :: vs, h => by simp at h
  | p :: ps, [], h => by simp at h
theorem pageCells_num : ∀ (ps : List Page) (vs : List Value) (j : Nat) (p : Page), vs.length = ps.length → ps[j]? = some p → (pageCells ps vs)[j * 2]? = some (.int .i64 p.number)
  | [], _, j, p, _, hp => by simp at hp
  | q :: ps, [], j, p, h, _ => by simp at h
  | q :: ps, v :: vs, 0, p, _, hp => by simp at hp; subst hp; rfl
  | q :: ps, v :: vs, j + 1, p, h, hp => by
    have := pageCells_num ps vs j p (by simpa using h) (by simpa using hp)
    rw [show (j + 1) * 2 = j * 2 + 1 + 1 by omega]
    simpa [pageCells] using this
theorem pageCells_val : ∀ (ps : List Page) (vs : List Value) (j : Nat) (u : Value), vs.length = ps.length → vs[j]? = some u → (pageCells ps vs)[j * 2 + 1]? = some u
  | [], vs, j, u, h, hu => by simp at h; subst h; simp at hu
  | q :: ps, [], j, u, h, _ => by simp at h
  | q :: ps, v :: vs, 0, u, _, hu => by simp at hu; subst hu; rfl
  | q :: ps, v :: vs, j + 1, u, h, hu => by
    have := pageCells_val ps vs j u (by simpa using h) (by simpa using hu)
    rw [show (j + 1) * 2 + 1 = j * 2 + 1 + 1 + 1 by omega]
    simpa [pageCells] using this
theorem pageCells_set : ∀ (ps : List Page) (vs : List Value) (j : Nat) (u : Value), vs.length = ps.length → j < ps.length → (pageCells ps vs).set (j * 2 + 1) u = pageCells ps (vs.set j u)
  | [], vs, j, u, _, hj => by simp at hj
  | q :: ps, [], j, u, h, _ => by simp at h
  | q :: ps, v :: vs, 0, u, _, _ => rfl
  | q :: ps, v :: vs, j + 1, u, h, hj => by
    have := pageCells_set ps vs j u (by simpa using h) (by simpa using hj)
    rw [show (j + 1) * 2 + 1 = j * 2 + 1 + 1 + 1 by omega]
    simp [pageCells, this]
theorem pageCells_append : ∀ (ps qs : List Page) (vs us : List Value), vs.length = ps.length → pageCells (ps ++ qs) (vs ++ us) = pageCells ps vs ++ pageCells qs us
  | [], qs, vs, us, h => by simp at h; subst h; rfl
  | p :: ps, qs, [], us, h => by simp at h
  | p :: ps, qs, v :: vs, us, h => by
    simp [pageCells, pageCells_append ps qs vs us (by simpa using h)]

theorem owns_below {w w' : World} {base : Nat} {e : TypeId} {size : Nat} {v : Value} {n : Nat} {xs : List Value} (h : w.ownsRow base e size v n xs) (hb : Below w.heap.size w w') : w'.ownsRow base e size v n xs := by
  refine ⟨h.1, ?_⟩
  rcases h.2 with hn | ⟨g, cap, cur, rfl, hg, hh, rest⟩
  · exact .inl hn
  · exact .inr ⟨g, cap, cur, rfl, hg, by rw [hb.block g (Array.getElem?_eq_some_iff.1 hh).1]; exact hh, rest⟩
theorem owns_base {w : World} {base base' : Nat} {e : TypeId} {size : Nat} {v : Value} {n : Nat} {xs : List Value} (h : w.ownsRow base e size v n xs) (hb : base' ≤ base) : w.ownsRow base' e size v n xs := by
  refine ⟨h.1, ?_⟩
  rcases h.2 with hn | ⟨g, cap, cur, rfl, hg, rest⟩
  · exact .inl hn
  · exact .inr ⟨g, cap, cur, rfl, by omega, rest⟩

/-- pages of the call's own; the bytes of the first k of them are so too, those of the others read as they did in w0 -/
structure PagesMid (base : Nat) (w0 w : World) (v : Value) (ps : List Page) (vs : List Value) (k : Nat) : Prop where
  len : vs.length = ps.length
  row : w.ownsRow base 69 2 v ps.length (pageCells ps vs)
  done : ∀ j p u, ps[j]? = some p → vs[j]? = some u → j < k → w.ownsRow base 5 1 u p.bytes.length (p.bytes.map byteV)
  old : ∀ j p u, ps[j]? = some p → vs[j]? = some u → k ≤ j → ∃ ba bc, u = .slice ba p.bytes.length bc ∧ BytesAt w0 ba p.bytes
  off : ∀ j u b, vs[j]? = some u → j < k → u.ownBlock = some b → v.ownBlock ≠ some b
  apart : ∀ i j u u' b, i < j → j < k → vs[i]? = some u → vs[j]? = some u' → u.ownBlock = some b → u'.ownBlock ≠ some b

/-- one round of a copy -/
theorem PagesMid.step {base : Nat} {w0 w w2 : World} {g n c : Nat} {ps : List Page} {vs : List Value} {k : Nat} {p : Page} {u : Value}
    (h : PagesMid base w0 w (.slice (some ⟨g, 0, none⟩) n c) ps vs k) (hn : n = ps.length) (hp : ps[k]? = some p) (hb : Below w.heap.size w w2)
    (ho : w2.ownsRow w.heap.size 5 1 u p.bytes.length (p.bytes.map byteV)) (hbase : base ≤ w.heap.size) :
    PagesMid base w0 (w2.setCell ⟨g, k * 2 + 1, none⟩ u) (.slice (some ⟨g, 0, none⟩) n c) ps (vs.set k u) (k + 1) := by
  subst hn
  have hk : k < ps.length := (List.getElem?_eq_some_iff.1 hp).1
  have hlt := h.row.lt g rfl
  have hrow := (owns_below h.row hb).stored (k * 2 + 1) u
  have hother : ∀ {v' : Value} {m : Nat} {xs : List Value} {b0 : Nat}, w2.ownsRow b0 5 1 v' m xs → (∀ b, v'.ownBlock = some b → b ≠ g) → (w2.setCell ⟨g, k * 2 + 1, none⟩ u).ownsRow b0 5 1 v' m xs := by
    intro v' m xs b0 h1 h2
    refine h1.kept hrow.2 ?_
    cases hv : v'.ownBlock with
    | none => exact .inl rfl
    | some b => exact .inr (fun e => h2 b hv (by simpa using e))
  have hu : ∀ b, u.ownBlock = some b → w.heap.size ≤ b := fun b hb' => (ho.lt b hb').1
  refine ⟨by simpa using h.len, ?_, ?_, ?_, ?_, ?_⟩
  · rw [← pageCells_set ps vs k u h.len hk]; exact hrow.1
  · intro j q x hq hx hj
    by_cases e : j = k
    · subst e
      rw [hq] at hp; cases hp
      rw [List.getElem?_set_self (by rw [h.len]; exact hk)] at hx
      cases hx
      exact hother (owns_base ho hbase) (fun b hb' => by have := hu b hb'; omega)
    · rw [List.getElem?_set_ne (by omega)] at hx
      exact hother (owns_below (h.done j q x hq hx (by omega)) hb) (fun b hb' e' => h.off j x b hx (by omega) hb' (by rw [e']; rfl))
  · intro j q x hq hx hj
    rw [List.getElem?_set_ne (by omega)] at hx
    exact h.old j q x hq hx (by omega)
  · intro j x b hx hj hb'
    by_cases e : j = k
    · subst e
      rw [List.getElem?_set_self (by rw [h.len]; exact hk)] at hx
      cases hx
      have := hu b hb'
      simp [Value.ownBlock]; omega
    · rw [List.getElem?_set_ne (by omega)] at hx
      exact h.off j x b hx (by omega) hb'
  · intro i j x x' b hij hj hx hx' hb'
    rw [List.getElem?_set_ne (by omega)] at hx
    by_cases e : j = k
    · subst e
      rw [List.getElem?_set_self (by rw [h.len]; exact hk)] at hx'
      cases hx'
      intro hu'
      have h1 := hu b hu'
      obtain ⟨q, hq⟩ : ∃ q, ps[i]? = some q := ⟨_, List.getElem?_eq_getElem (by omega)⟩
      have h2 := (h.done i q x hq hx (by omega)).lt b hb'
      omega
    · rw [List.getElem?_set_ne (by omega)] at hx'
      exact h.apart i j x x' b hij (by omega) hx hx' hb'

/-- what a slice of pages reads as, as a row of cells -/
theorem pages_cells {w : World} {a : Option Addr} {ps : List Page} (h : RowsAt w a 2 (PageR w) ps) :
    ∃ vs : List Value, vs.length = ps.length ∧ CellsAt w a (pageCells ps vs) ∧ (pageCells ps vs).all (·.oneCell') = true ∧
      ∀ (j : Nat) (p : Page) (u : Value), ps[j]? = some p → vs[j]? = some u → ∃ ba bc, u = .slice ba p.bytes.length bc ∧ BytesAt w ba p.bytes := by
  rcases h with h | ⟨b, o, ha, hc⟩
  · subst h
    exact ⟨[], rfl, .inl rfl, rfl, fun j p u hp => by simp at hp⟩
  · have hx : ∀ i, i < ps.length → ∃ x : Option Addr × Nat, ∀ hi : i < ps.length, BytesAt w x.1 ps[i].bytes ∧
        w.cell? ⟨b, o + i * 2, none⟩ = some (.int .i64 ps[i].number) ∧ w.cell? ⟨b, o + (i * 2 + 1), none⟩ = some (.slice x.1 ps[i].bytes.length x.2) := by
      intro i hi
      obtain ⟨cs, _, ⟨_, ba, bc, hcs, hby, _⟩, h3⟩ := hc i hi
      subst hcs
      exact ⟨(ba, bc), fun _ => ⟨hby, h3 0 _ rfl, h3 1 _ rfl⟩⟩
    obtain ⟨f, hf⟩ := Deep.choose_lt hx
    refine ⟨(List.range ps.length).map fun i => .slice (f i).1 ((ps[i]?.map (·.bytes.length)).getD 0) (f i).2, by simp, .inr ⟨b, o, ha, ?_⟩, ?_, ?_⟩
    · intro i v hv
      have hl : ((List.range ps.length).map fun i => Value.slice (f i).1 ((ps[i]?.map (·.bytes.length)).getD 0) (f i).2).length = ps.length := by simp
      have hi : i < ps.length * 2 := by
        have := (List.getElem?_eq_some_iff.1 hv).1
        rwa [pageCells_length _ _ hl] at this
      have hj : i / 2 < ps.length := by omega
      have hp : ps[i / 2]? = some ps[i / 2] := List.getElem?_eq_getElem hj
      obtain ⟨_, h1, h2⟩ := hf (i / 2) hj hj
      rcases Nat.mod_two_eq_zero_or_one i with hm | hm
      · have e : i = i / 2 * 2 := by omega
        have hn := pageCells_num _ _ (i / 2) _ hl hp
        rw [← e] at hn h1
        rw [hn] at hv; cases hv
        exact h1
      · have e : i = i / 2 * 2 + 1 := by omega
        have hn := pageCells_val ps _ (i / 2) (.slice (f (i / 2)).1 ps[i / 2].bytes.length (f (i / 2)).2) hl (by simp [hj])
        rw [← e] at hn h2
        rw [hn] at hv; cases hv
        exact h2
    · rw [List.all_eq_true]
      intro v hv
      have gen : ∀ (ps : List Page) (vs : List Value), (∀ u ∈ vs, ∃ a n c, u = .slice a n c) → ∀ v ∈ pageCells ps vs, v.oneCell' = true := by
        intro ps
        induction ps with
        | nil => intro vs _ v hv; cases vs <;> simp [pageCells] at hv
        | cons p ps ih =>
          intro vs hvs v hv
          cases vs with
          | nil => simp [pageCells] at hv
          | cons u vs =>
            simp only [pageCells, List.mem_cons] at hv
            rcases hv with rfl | rfl | hv
            · rfl
            · obtain ⟨a, n, c, rfl⟩ := hvs v (by simp)
              rfl
            · exact ih vs (fun u hu => hvs u (by simp [hu])) v hv
      exact gen _ _ (fun u hu => by simp at hu; obtain ⟨i, _, rfl⟩ := hu; exact ⟨_, _, _, rfl⟩) v hv
    · intro j p u hp hu
      obtain ⟨hj, hp'⟩ := List.getElem?_eq_some_iff.1 hp
      simp [hj] at hu
      subst hu hp'
      exact ⟨_, _, rfl, (hf j hj hj).1⟩
theorem own_slice {w : World} {base : Nat} {e : TypeId} {size : Nat} {v : Value} {n : Nat} {xs : List Value} (h : w.ownsRow base e size v n xs) : ∃ a c, v = .slice a n c := by
  rcases h.2 with ⟨rfl, rfl⟩ | ⟨g, cap, cur, rfl, _⟩
  · exact ⟨_, _, rfl⟩
  · exact ⟨_, _, rfl⟩
theorem own_some {w : World} {base : Nat} {e : TypeId} {size : Nat} {a : Option Addr} {n m c : Nat} {xs : List Value} (h : w.ownsRow base e size (.slice a m c) n xs) (hn : 0 < n) : ∃ g, a = some ⟨g, 0, none⟩ ∧ base ≤ g ∧ g < w.heap.size := by
  obtain ⟨g, cap, hv, hb, hg, _⟩ := own_shape h hn
  cases hv
  exact ⟨g, rfl, hb, hg⟩
theorem PagesMid.setCell_below {base : Nat} {w0 w : World} {v : Value} {ps : List Page} {vs : List Value} {k : Nat} (h : PagesMid base w0 w v ps vs k) {a : Addr} (ha : a.block < base) (u : Value) : PagesMid base w0 (w.setCell a u) v ps vs k :=
  ⟨h.len, ownsRow_setCell_below h.row ha u, fun j p x h1 h2 h3 => ownsRow_setCell_below (h.done j p x h1 h2 h3) ha u, h.old, h.off, h.apart⟩
theorem PagesMid.base {base base' : Nat} {w0 w : World} {v : Value} {ps : List Page} {vs : List Value} {k : Nat} (h : PagesMid base w0 w v ps vs k) (hb : base' ≤ base) : PagesMid base' w0 w v ps vs k :=
  ⟨h.len, owns_base h.row hb, fun j p x h1 h2 h3 => owns_base (h.done j p x h1 h2 h3) hb, h.old, h.off, h.apart⟩
/-- what is the call's own reads as pages -/
theorem PagesMid.rows {base : Nat} {w0 w : World} {va : Option Addr} {n vc : Nat} {ps : List Page} {vs : List Value} (h : PagesMid base w0 w (.slice va n vc) ps vs ps.length) (hb : ∀ p ∈ ps, PageB p) :
    RowsAt w va 2 (PageR w) ps := by
  rcases Nat.eq_zero_or_pos ps.length with h0 | h0
  · exact .inl (List.eq_nil_of_length_eq_zero h0)
  · obtain ⟨g, cap, hv, _, _, _, _, hcell⟩ := own_shape h.row h0
    cases hv
    refine .inr ⟨g, 0, rfl, fun i hi => ?_⟩
    have hp : ps[i]? = some ps[i] := List.getElem?_eq_getElem hi
    obtain ⟨u, hu⟩ : ∃ u, vs[i]? = some u := ⟨_, List.getElem?_eq_getElem (by rw [h.len]; exact hi)⟩
    have hd := h.done i _ u hp hu hi
    obtain ⟨ba, bc, rfl⟩ := own_slice hd
    obtain ⟨hb1, hb2⟩ := hb ps[i] (List.getElem_mem hi)
    have hcap : ps[i].bytes.length ≤ bc ∧ bc ≤ 9223372036854775807 := by
      rcases hd.2 with ⟨e1, e2⟩ | ⟨g', c', cur', e1, _, _, h3, h4, _⟩
      · simp only [Value.slice.injEq] at e1
        obtain ⟨_, e3, e4⟩ := e1
        omega
      · simp only [Value.slice.injEq] at e1
        obtain ⟨_, _, rfl⟩ := e1
        exact ⟨h3, le_maxLen h4⟩
    refine ⟨[.int .i64 ps[i].number, .slice ba ps[i].bytes.length bc], rfl, ⟨hb1, ba, bc, rfl, ?_, hb2, hcap⟩, ?_⟩
    · rcases Nat.eq_zero_or_pos ps[i].bytes.length with h1 | h1
      · exact .inl (by simp [List.eq_nil_of_length_eq_zero h1])
      · obtain ⟨g', c', hv', _, _, _, _, hcell'⟩ := own_shape hd h1
        cases hv'
        exact .inr ⟨g', 0, rfl, fun j v hj => by rw [Nat.zero_add]; exact hcell' j v hj⟩
    · intro j v hj
      rw [Nat.zero_add]
      match j, hj with
      | 0, hj => cases hj; exact hcell _ _ (pageCells_num ps vs i _ h.len hp)
      | 1, hj => cases hj; exact hcell _ _ (pageCells_val ps vs i _ h.len hu)
end Go.Proofs.Ytjhfomihlobjgaa.D
