/-
  Contracts: keep.picked, keep.value.
-/
import Derived.Test.YtbeegfkfpkfccaaDoorYBase
import Derived.Test.YtbeegfkfpkfccaaDoorYCShelf
import Derived.Conc.WalkWords
import Derived.Deep.DeepCutAuto
import Derived.Deep.CutBlock
namespace Go.Proofs.YtbeegfkfpkfccaaDoor.D
open Go.RowKit
def pick (n m : Int) : Int := (if n < 0 then -(n + 1) else n) % m
theorem pick_lt (n m : Int) (h : 0 < m) : 0 ≤ pick n m ∧ pick n m < m := ⟨Int.emod_nonneg _ (by omega), Int.emod_lt_of_pos _ h⟩
theorem picked_is (n m : Int) (h0 : -9223372036854775808 ≤ n) (h1 : n ≤ 9223372036854775807) (hm : 0 < m) (hm2 : m ≤ 9223372036854775807) (w : World) :
    Calls Tryd.prog 8 #[.int .i64 n, .int .i64 m] w fun e w' => e = .returned (.int .i64 (pick n m)) ∧ w = w' := by
  have hl := pick_lt n m hm
  obtain ⟨p, hp⟩ : ∃ p, p = pick n m := ⟨_, rfl⟩
  rw [← hp] at hl ⊢
  have hmz : (m == 0) = false := by simp; omega
  have hmz2 : m ≠ 0 := by omega
  by_cases hn : n < 0
  · obtain ⟨k, hk⟩ : ∃ k, k = -(n + 1) := ⟨_, rfl⟩
    have e1 : wrap64 (n + 1) = n + 1 := IntWalk.wrap64_in _ ⟨by omega, by omega⟩
    have e2 : -(n + 1) = k := hk.symm
    have e3 : wrap64 k = k := IntWalk.wrap64_in _ ⟨by omega, by omega⟩
    have e4 : k.tmod m = p := by rw [hp]; unfold pick; rw [if_pos hn, ← hk, Int.tmod_eq_emod_of_nonneg (by omega)]
    have e5 : wrap64 p = p := IntWalk.wrap64_in _ ⟨by omega, by omega⟩
    clear hp hk
    go_enter Tryd.func8, Tryd.ntmps8
    go_wp2_with fail
    go_ret
    exact ⟨rfl, rfl⟩
  · have e4 : n.tmod m = p := by rw [hp]; unfold pick; rw [if_neg hn, Int.tmod_eq_emod_of_nonneg (by omega)]
    have e5 : wrap64 p = p := IntWalk.wrap64_in _ ⟨by omega, by omega⟩
    clear hp
    go_enter Tryd.func8, Tryd.ntmps8
    go_wp2_with fail
    go_ret
    exact ⟨rfl, rfl⟩
def ValEnd (w : World) (e : Ending) (w' : World) : Prop := ∃ s : ByteArray, e = .returned (.string s) ∧ s.size ≤ 1000 ∧ Below w.heap.size w w'
theorem picked_at (n m : Int) (k : Int) (hk : Hid (pick n m = k)) (h0 : -9223372036854775808 ≤ n) (h1 : n ≤ 9223372036854775807) (hm : 0 < m) (hm2 : m ≤ 9223372036854775807) (w : World) :
    Calls Tryd.prog 8 #[.int .i64 n, .int .i64 m] w fun e w' => e = .returned (.int .i64 k) ∧ w = w' := by
  have := picked_is n m h0 h1 hm hm2 w
  rwa [hk.out] at this
theorem tdiv_in (n k : Int) (hk : 2 ≤ k) (h0 : -9223372036854775808 ≤ n) (h1 : n ≤ 9223372036854775807) : -9223372036854775808 ≤ n.tdiv k ∧ n.tdiv k ≤ 9223372036854775807 := by
  have h : (n.tdiv k).natAbs = n.natAbs / k.natAbs := Int.natAbs_tdiv n k
  have h2 : n.natAbs / k.natAbs ≤ n.natAbs / 2 := Nat.div_le_div_left (by omega) (by decide)
  omega
end Go.Proofs.YtbeegfkfpkfccaaDoor.D
