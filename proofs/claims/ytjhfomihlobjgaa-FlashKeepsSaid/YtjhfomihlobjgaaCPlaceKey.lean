/-
  Keys that are places: what they read as.
-/
import Derived.Test.YtjhfomihlobjgaaCLaw
import Derived.Test.YtjhfomihlobjgaaCRead
import Derived.Maps.RangeWalk
import Derived.Maps.OwnSet
import Derived.DeepKeys4
namespace Go.Proofs.Ytjhfomihlobjgaa.D
open Go.RowKit Go.Maps
def placeV (q : Place) : Value := .agg #[.int .i64 q.page, .int .i64 q.off]
def klOf (q : Place) : Lit := .string (keyBytes [.int .i64 q.page, .int .i64 q.off])
theorem placeLaw : Keyed Try.prog 55 := Keyed.of_law (deep_law_laid (m := 10) laidOut (by decide) (by decide +kernel) (by kernel_rfl) (by kernel_rfl))
theorem key_type : Try.prog.keyType 55 = true := by kernel_rfl
theorem i64_wf {n : Int} (h : I64 n) : (Lit.int .i64 n).wf = true := WalkArith.wf_i64 ⟨h.1, h.2⟩
theorem types_pos : ∃ m, Try.prog.types.size = m + 1 := by
  have h : (Try.prog.types.size != 0) = true := by kernel_rfl
  exact ⟨Try.prog.types.size - 1, by
    have h2 : Try.prog.types.size ≠ 0 := by intro e; rw [e] at h; cases h
    omega⟩
theorem lits_int (d : Nat) (n : Int) (h : I64 n) : Try.prog.keyLits (d + 1) 3 [.int .i64 n] = some [.int .i64 n] := by
  simp [Program.keyLits, Try.underlying3, i64_wf h]
theorem lits_place (d : Nat) (a b : Int) (h1 : I64 a) (h2 : I64 b) : Try.prog.keyLits (d + 2) 55 [.int .i64 a, .int .i64 b] = some [.int .i64 a, .int .i64 b] := by
  have e1 := lits_int d a h1
  have e2 := lits_int d b h2
  unfold Program.keyLits
  rw [Try.underlying55]
  dsimp only
  rw [if_pos (by rw [cells_place]; exact ⟨rfl, by kernel_rfl⟩)]
  simp [cells_int, e1, e2]
theorem key_is (q : Place) (h1 : I64 q.page) (h2 : I64 q.off) : keyOf Try.prog 55 (placeV q) = some (klOf q) := by
  obtain ⟨m, hm⟩ := types_pos
  unfold keyOf
  rw [Try.underlying55]
  dsimp only
  have hf : (placeV q).formed Try.prog 55 = true := by
    unfold placeV Value.formed
    rw [Try.underlying55]
    dsimp only
    rw [cells_place]; rfl
  rw [key_type, hf, hm]
  have hc : (placeV q).cells.toList = [.int .i64 q.page, .int .i64 q.off] := rfl
  rw [hc, lits_place m q.page q.off h1 h2]
  rfl
set_option maxRecDepth 100000 in
theorem lits_int_inv (d : Nat) (v : Value) (l : List Lit) (h : Try.prog.keyLits (d + 1) 3 [v] = some l) : ∃ n, v = .int .i64 n ∧ I64 n ∧ l = [.int .i64 n] := by
  unfold Program.keyLits at h
  rw [Try.underlying3] at h
  cases v with
  | int q n =>
    dsimp only at h
    split at h
    · rename_i hc
      obtain ⟨rfl, hw⟩ := hc
      cases h
      exact ⟨n, rfl, bounds_i64 hw, rfl⟩
    · cases h
  | _ => cases h
set_option maxRecDepth 100000 in
theorem key_inv {v : Value} {kl : Lit} (h : keyOf Try.prog 55 v = some kl) : ∃ q : Place, v = placeV q ∧ I64 q.page ∧ I64 q.off ∧ kl = klOf q := by
  have h0 := h
  obtain ⟨m, hm⟩ := types_pos
  have h' : (if (Try.prog.keyType 55 && v.formed Try.prog 55) = true then (Try.prog.keyLits (Try.prog.types.size + 1) 55 v.cells.toList).map (fun ls => Lit.string (keyBytes ls)) else none) = some kl := by
    unfold keyOf at h
    rw [Try.underlying55] at h
    exact h
  clear h
  have hc : (Try.prog.keyType 55 && v.formed Try.prog 55) = true := by
    cases hx : (Try.prog.keyType 55 && v.formed Try.prog 55)
    · rw [hx] at h'; cases h'
    · rfl
  rw [if_pos hc] at h'
  have h := h'
  clear h'
  rw [Bool.and_eq_true] at hc
  obtain ⟨ls, h1, h2⟩ := Option.map_eq_some_iff.1 h
  obtain ⟨cs, rfl⟩ : ∃ cs, v = .agg cs := by
    have hf := hc.2
    unfold Value.formed at hf
    rw [Try.underlying55] at hf
    cases v <;> first | exact ⟨_, rfl⟩ | cases hf
  have hsz : cs.size = 2 := by
    have hf := hc.2
    unfold Value.formed at hf
    rw [Try.underlying55] at hf
    dsimp only at hf
    rw [cells_place] at hf
    simpa using hf
  obtain ⟨a, b, hab⟩ := two (l := cs.toList) (by simpa using hsz)
  obtain rfl : cs = #[a, b] := by cases cs; simp_all
  have hcc : (Value.agg #[a, b]).cells.toList = [a, b] := rfl
  rw [hm, hcc] at h1
  unfold Program.keyLits at h1
  rw [Try.underlying55] at h1
  dsimp only at h1
  rw [if_pos (by rw [cells_place]; exact ⟨rfl, by kernel_rfl⟩)] at h1
  rw [List.mapM_cons, List.mapM_cons, List.mapM_nil] at h1
  dsimp only at h1
  rw [cells_int] at h1
  cases x1 : Try.prog.keyLits (m + 1) 3 (List.take 1 (List.drop 0 [a, b])) with
  | none => rw [x1] at h1; cases h1
  | some l1 =>
    rw [x1] at h1
    cases x2 : Try.prog.keyLits (m + 1) 3 (List.take 1 (List.drop 1 [a, b])) with
    | none => rw [x2] at h1; cases h1
    | some l2 =>
      rw [x2] at h1
      obtain ⟨n1, rfl, i1, rfl⟩ := lits_int_inv m a l1 x1
      obtain ⟨n2, rfl, i2, rfl⟩ := lits_int_inv m b l2 x2
      have h3 := key_is ⟨n1, n2⟩ i1 i2
      refine ⟨⟨n1, n2⟩, rfl, i1, i2, ?_⟩
      exact Option.some.inj (h0.symm.trans h3)
theorem kl_inj {p q : Place} (h1 : I64 p.page) (h2 : I64 p.off) (h3 : I64 q.page) (h4 : I64 q.off) (h : klOf p = klOf q) : p = q := by
  have e1 := key_is p h1 h2
  have e2 := key_is q h3 h4
  rw [← h] at e2
  have := placeLaw.inj e1 e2
  unfold placeV at this
  obtain ⟨a, b⟩ := p
  obtain ⟨c, d⟩ := q
  simp at this
  obtain ⟨rfl, rfl⟩ := this
  rfl
theorem kl_lit (q : Place) (h1 : I64 q.page) (h2 : I64 q.off) : WideAt.IsKeyLit (klOf q) := placeLaw.key (key_is q h1 h2)
end Go.Proofs.Ytjhfomihlobjgaa.D
