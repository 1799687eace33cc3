/-
  Contracts: store.Class and ref.ClassOf tell the class of a key and a value of so many bytes. Condition: the table of chunks holds its four numbers.
-/
import Derived.Test.YtbeegfkfpkfccaaDoorYBase
import Derived.Test.YtbeegfkfpkfccaaDoorYPlain
namespace Go.Proofs.YtbeegfkfpkfccaaDoor.D
open Go.RowKit
def chunkAt : Nat → Int
  | 0 => 32
  | 1 => 64
  | 2 => 128
  | _ => 256
/-- the table holds its four numbers -/
def Chunks (w : World) : Prop := ∀ i, i < 4 → w.cell? ⟨0, i, none⟩ = some (.int .i64 (chunkAt i))
theorem Chunks.keep {w w' : World} (h : Chunks w) (k : Keeps w w') : Chunks w' := fun i hi => k _ _ (h i hi)
theorem chunkAt_range (k : Nat) : 32 ≤ chunkAt k ∧ chunkAt k ≤ 256 := by unfold chunkAt; split <;> omega
theorem cls_hit {key val : Int} {k : Nat} (h : 1 ≤ key ∧ key ≤ 20 ∧ 0 ≤ val ∧ val ≤ 200) (hk : k < 4) (hlt : ∀ j, j < k → chunkAt j < 8 + key + val) (hle : 8 + key + val ≤ chunkAt k) : classOf key val = k := by
  rw [classOf_good h]
  match k, hk with
  | 0, _ => rw [if_pos (by have : chunkAt 0 = 32 := rfl; omega)]; rfl
  | 1, _ =>
    have h0 := hlt 0 (by omega)
    have : chunkAt 0 = 32 := rfl
    have : chunkAt 1 = 64 := rfl
    rw [if_neg (by omega), if_pos (by omega)]; rfl
  | 2, _ =>
    have h1 := hlt 1 (by omega)
    have : chunkAt 1 = 64 := rfl
    have : chunkAt 2 = 128 := rfl
    rw [if_neg (by omega), if_neg (by omega), if_pos (by omega)]; rfl
  | 3, _ =>
    have h1 := hlt 2 (by omega)
    have : chunkAt 2 = 128 := rfl
    rw [if_neg (by omega), if_neg (by omega), if_neg (by omega)]; rfl
theorem chunk_lit (n key val : Int) (g1 g2 : Nat) (w : World) (h1 : w.cell? ⟨g1, 0, none⟩ = some (.int .i64 key)) (h2 : w.cell? ⟨g2, 0, none⟩ = some (.int .i64 val)) (hk : 1 ≤ key ∧ key ≤ 20) (hv : 0 ≤ val ∧ val ≤ 200) :
    Calls Tryd.prog 59 #[.int .i64 n, .pointer (some ⟨g1, 0, none⟩), .pointer (some ⟨g2, 0, none⟩)] w fun e w' => e = .returned (.bool (decide (8 + key + val ≤ n))) ∧ w = w' := by
  obtain ⟨hk1, hk2⟩ := hk
  obtain ⟨hv1, hv2⟩ := hv
  go_enter Tryd.func59, Tryd.ntmps59
  go_wp2_with fail
  go_ret
  exact ⟨rfl, rfl⟩
def IdxC (c : Int) (w : World) (e : Ending) (w' : World) : Prop := e = .returned (.int .i64 c) ∧ Below w.heap.size w w'
set_option maxHeartbeats 1000000 in
theorem index_chunk (key val : Int) (g1 g2 : Nat) (w : World) (hc : Chunks w) (h1 : w.cell? ⟨g1, 0, none⟩ = some (.int .i64 key)) (h2 : w.cell? ⟨g2, 0, none⟩ = some (.int .i64 val)) (h : 1 ≤ key ∧ key ≤ 20 ∧ 0 ≤ val ∧ val ≤ 200) :
    Calls Tryd.prog 58 #[.slice (some ⟨0, 0, none⟩) 4 4, .func (.func 59) #[] #[.pointer (some ⟨g1, 0, none⟩), .pointer (some ⟨g2, 0, none⟩)]] w (IdxC (classOf key val) w) := by
  have HC := Lib.hid hc
  have H1 := Lib.hid h1
  have H2 := Lib.hid h2
  have HG := Lib.hid h
  obtain ⟨hk1, hk2, hv1, hv2⟩ := h
  clear hc h1 h2
  go_enter Tryd.func58, Tryd.ntmps58
  go_wp2_with fail
  go_loopw [8] (fun i wr => ∃ k : Nat, k ≤ 4 ∧ i = .int .i64 k ∧ Below w.heap.size w wr ∧ Hid (∀ j, j < k → chunkAt j < 8 + key + val)) (fun i _ => 4 - (intOf i).toNat)
  case atStart => exact ⟨0, by omega, rfl, Below.refl _ _, fun j hj => absurd hj (Nat.not_lt_zero _)⟩
  case round =>
    obtain ⟨k, hk, rfl, hb, hlt⟩ := hrel
    by_cases hk4 : k < 4
    · have hkp := Below.keeps hb
      have c0 := hkp _ _ (HC.out k hk4)
      have c1 := hkp _ _ H1.out
      have c2 := hkp _ _ H2.out
      obtain ⟨n, hn⟩ : ∃ n, n = chunkAt k := ⟨_, rfl⟩
      rw [← hn] at c0
      have HN := Lib.hid hn
      clear hn hkp
      by_cases ht : 8 + key + val ≤ n
      · have htt : decide (8 + key + val ≤ n) = true := by simpa using ht
        go_wp2_with fail
        refine (chunk_lit n key val g1 g2 _ c1 c2 ⟨hk1, hk2⟩ ⟨hv1, hv2⟩).mono ?_
        rintro e w2 ⟨rfl, rfl⟩
        go_wp2_with fail
        go_ret
        exact ⟨by rw [cls_hit HG.out hk4 hlt.out (by rw [← HN.out]; exact ht)]; rfl, hb⟩
      · have htt : decide (8 + key + val ≤ n) = false := by simpa using ht
        go_wp2_with fail
        refine (chunk_lit n key val g1 g2 _ c1 c2 ⟨hk1, hk2⟩ ⟨hv1, hv2⟩).mono ?_
        rintro e w2 ⟨rfl, rfl⟩
        go_wp2_with fail
        have hlt2 : Hid (∀ j, j < k + 1 → chunkAt j < 8 + key + val) := fun j hj => by
          by_cases hjk : j = k
          · subst hjk; rw [← HN.out]; omega
          · exact hlt.out j (by omega)
        go_roundw
        case rel => exact ⟨k + 1, by omega, by go_num, hb, hlt2⟩
        case measure => simp [intOf]; omega
    · exfalso
      have := hlt.out 3 (by omega)
      have h3 : chunkAt 3 = 256 := rfl
      omega
set_option maxHeartbeats 1000000 in
theorem store_Class (key val : Int) (w : World) (hc : Chunks w) : Calls Tryd.prog 37 #[.int .i64 key, .int .i64 val] w (IdxC (classOf key val) w) := by
  have HC := Lib.hid hc
  clear hc
  by_cases h : 1 ≤ key ∧ key ≤ 20 ∧ 0 ≤ val ∧ val ≤ 200
  · have HG := Lib.hid h
    obtain ⟨hk1, hk2, hv1, hv2⟩ := h
    go_enter Tryd.func37, Tryd.ntmps37
    go_wp2_with fail
    refine (index_chunk key val w.heap.size (w.heap.size + 1) _ (HC.out.keep (Below.keeps (by go_grown))) (by go_simp) (by go_simp) HG.out).mono ?_
    rintro e w2 ⟨rfl, hb⟩
    go_wp2_with fail
    go_ret
    exact ⟨rfl, Below.trans (by go_grown) (hb.mono (by go_size))⟩
  · have HB : Hid (classOf key val = -1) := classOf_bad h
    have hcase : key < 1 ∨ (1 ≤ key ∧ 20 < key) ∨ (1 ≤ key ∧ key ≤ 20 ∧ val < 0) ∨ (1 ≤ key ∧ key ≤ 20 ∧ 0 ≤ val ∧ 200 < val) := by omega
    clear h
    rcases hcase with h | ⟨h, h2⟩ | ⟨h, h2, h3⟩ | ⟨h, h2, h3, h4⟩
    all_goals
      go_enter Tryd.func37, Tryd.ntmps37
      go_wp2_with fail
      go_ret
      exact ⟨by rw [HB.out]; rfl, by go_grown⟩
end Go.Proofs.YtbeegfkfpkfccaaDoor.D
