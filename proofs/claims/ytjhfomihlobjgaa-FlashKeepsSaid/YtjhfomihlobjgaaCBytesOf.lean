/-
  Contract: ref.bytesOf lays the record of a value. Condition: the value has at most 200 bytes.
-/
import Derived.Test.YtjhfomihlobjgaaCSum
import Derived.Test.YtjhfomihlobjgaaPRecs
import Derived.Lib.AppendStr
namespace Go.Proofs.Ytjhfomihlobjgaa.D
open Go.RowKit

theorem infoByte0 : (Try.prog.info? 5).map (fun i => (i.zero, i.size, i.bytes)) = some (some (.int .u8 0), 1, 1) := by kernel_rfl
def BytesEnd (s : ByteArray) (w : World) (e : Ending) (w' : World) : Prop :=
  ∃ v, e = .returned v ∧ w'.ownsRow w.heap.size 5 1 v (3 + s.size) ((recordOf (bl s)).map byteV) ∧ Below w.heap.size w w'
theorem rec_cells (s : ByteArray) (hs : s.size ≤ 200) : (#[Value.int .u8 (s.size : Nat), .int .u8 ((sumOf (bl s) : Int) / 256), .int .u8 ((sumOf (bl s) : Int) % 256)]).toList ++ Lib.strCells s = (recordOf (bl s)).map byteV := by
  have h := sumOf_lt (bl s)
  have h1 : (UInt8.ofNat s.size).toNat = s.size := by simp; omega
  have h2 : (UInt8.ofNat (sumOf (bl s) / 256)).toNat = sumOf (bl s) / 256 := by simp; omega
  have h3 : (UInt8.ofNat (sumOf (bl s) % 256)).toNat = sumOf (bl s) % 256 := by simp
  simp only [recordOf, List.map_append, List.map_cons, List.map_nil, bl_length, byteV, h1, h2, h3]
  congr 1
theorem sum_any (s : ByteArray) (n : Nat) (hn : Hid (n = sumOf (bl s))) (w : World) (hs : s.size ≤ 9223372036854775807) :
    Calls Try.prog 55 #[.string s] w fun e w' => e = .returned (.int .i64 n) ∧ w = w' := by
  have := hn.out
  subst this
  exact ref_sumOf s w hs
set_option maxRecDepth 100000 in
theorem ref_bytesOf (s : ByteArray) (w : World) (hs : s.size ≤ 200) : Calls Try.prog 51 #[.string s] w (BytesEnd s w) := by
  have h := sumOf_lt (bl s)
  obtain ⟨i0, hi, hz0, hz1, hz2⟩ := info_parts infoByte0
  have HC := Lib.hid (rec_cells s hs)
  obtain ⟨n, hn⟩ : ∃ n, n = sumOf (bl s) := ⟨_, rfl⟩
  rw [← hn] at h HC
  have HN := Lib.hid hn
  clear hn
  go_enter Try.func51, Try.ntmps51
  go_wp2_with fail
  refine (sum_any s n HN _ (by omega)).mono ?_
  rintro e w' ⟨rfl, rfl⟩
  go_wp2_with fail
  refine (sum_any s n HN _ (by omega)).mono ?_
  rintro e w' ⟨rfl, rfl⟩
  go_wp2_with (at_builtin; go_must (refine Lib.wpList_append_own_string _ rfl (.tmp 16) (.tmp 17) 67 9 rfl w.heap.size 5 i0 Try.underlying67 Try.underlying9 hi hz0 hz1 hz2 _ 3 _ rfl (ownsRow_lit _ _ #[.int .u8 (s.size : Nat), .int .u8 ((n : Int) / 256), .int .u8 ((n : Int) % 256)] _ w.heap.size 3 1 (Nat.le_refl _) rfl (by decide) rfl) s rfl (by unfold maxLen; omega) (by omega) (by go_size) ?_))
  intro v1 w1 hown hgrow _
  have hbl : Below w.heap.size w w1 := Below.grown (by go_grown) hgrow (by go_size) (by intro k hk; have hka : w.heap.size = k := (by simpa [Value.ownBlock] using hk); exact hka ▸ Nat.le_refl _)
  have HOW := Lib.hid hown
  clear hown hgrow
  go_wp2_with fail
  go_ret
  exact ⟨_, rfl, by rw [← HC.out]; exact HOW.out, hbl⟩
end Go.Proofs.Ytjhfomihlobjgaa.D
