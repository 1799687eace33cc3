/-
  Contract: strconv.Itoa at numbers of one figure: the world stays as it is.
-/
import Derived.Test.YtbeegfkfpkfccaaDoorYCItoa
import Derived.Test.YtbeegfkfpkfccaaDoorYPOldest
namespace Go.Proofs.YtbeegfkfpkfccaaDoor.D
open Go.RowKit
def oneC (n : Int) : ByteArray := ⟨#[UInt8.ofNat (48 + n.toNat)]⟩
theorem oneC_dec {n : Int} (h : 0 ≤ n ∧ n < 10) : oneC n = decS n := by
  obtain ⟨i, rfl⟩ : ∃ i : Nat, n = i := ⟨n.toNat, by omega⟩
  rw [dec_one (by omega)]; rfl
set_option maxRecDepth 100000 in
theorem small_is (n : Int) (h : 0 ≤ n ∧ n < 10) (w : World) : Calls Tryd.prog 31 #[.int .i64 n] w fun e w' => e = .returned (.string (oneC n)) ∧ w = w' := by
  have hcs : n = 0 ∨ n = 1 ∨ n = 2 ∨ n = 3 ∨ n = 4 ∨ n = 5 ∨ n = 6 ∨ n = 7 ∨ n = 8 ∨ n = 9 := by omega
  rcases hcs with rfl | rfl | rfl | rfl | rfl | rfl | rfl | rfl | rfl | rfl
  all_goals
    go_enter Tryd.func31, Tryd.ntmps31
    go_wp2_with fail
    go_ret
    exact ⟨rfl, rfl⟩
set_option maxRecDepth 100000 in
theorem format_is (n : Int) (h : 0 ≤ n ∧ n < 10) (w : World) : Calls Tryd.prog 19 #[.int .i64 n, .int .i64 10] w fun e w' => e = .returned (.string (oneC n)) ∧ w = w' := by
  have h1 : n < 100 := by omega
  have h2 : 0 ≤ n := h.1
  go_enter Tryd.func19, Tryd.ntmps19
  go_wp2_with fail
  refine (small_is n h _).mono ?_
  rintro e w1 ⟨rfl, rfl⟩
  go_wp2_with fail
  go_ret
  exact ⟨rfl, rfl⟩
set_option maxRecDepth 100000 in
theorem itoa_in (n : Int) (h : 0 ≤ n ∧ n < 10) (w : World) : Calls Tryd.prog 14 #[.int .i64 n] w fun e w' => e = .returned (.string (oneC n)) ∧ w = w' := by
  go_enter Tryd.func14, Tryd.ntmps14
  go_wp2_with fail
  refine (format_is n h _).mono ?_
  rintro e w1 ⟨rfl, rfl⟩
  go_wp2_with fail
  go_ret
  exact ⟨rfl, rfl⟩
set_option maxRecDepth 100000 in
theorem itoa_out (n : Int) (h : 0 ≤ n ∧ n < 10) (w : World) : Calls Tryd.prog 7 #[.int .i64 n] w fun e w' => e = .returned (.string (oneC n)) ∧ w = w' := by
  go_enter Tryd.func7, Tryd.ntmps7
  go_wp2_with fail
  refine (itoa_in n h _).mono ?_
  rintro e w1 ⟨rfl, rfl⟩
  go_wp2_with fail
  go_ret
  exact ⟨rfl, rfl⟩
/-- numbers of one figure -/
theorem itoa_small (n : Int) (h : 0 ≤ n ∧ n < 10) (w : World) : Calls Tryd.prog 7 #[.int .i64 n] w fun e w' => e = .returned (.string (decS n)) ∧ w = w' := by
  rw [← oneC_dec h]; exact itoa_out n h w
end Go.Proofs.YtbeegfkfpkfccaaDoor.D
