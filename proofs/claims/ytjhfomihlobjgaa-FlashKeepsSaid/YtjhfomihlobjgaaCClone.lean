/-
  Contracts: slices.Clone of bytes, of pages and of items: a row of the call's own. Condition: it takes at most 2^47 bytes.
-/
import Derived.Test.YtjhfomihlobjgaaCRead
namespace Go.Proofs.Ytjhfomihlobjgaa.D
open Go.RowKit

theorem CellsAt.news {w w' : World} {ad : Addr} {cs : List Value} (h : CellsAt w (some ad) cs) (k : Keeps w w') : ∀ j u, cs[j]? = some u → w'.cell? (ad.add j) = some u := by
  intro j u hu
  rcases h with h | ⟨b, o, ha, hc⟩
  · subst h; simp at hu
  · cases ha
    rw [addr_add]
    exact k _ _ (hc j u hu)
theorem CellsAt.none {w : World} {cs : List Value} (h : CellsAt w none cs) : cs = [] := by
  rcases h with h | ⟨b, o, ha, _⟩
  · exact h
  · cases ha

def Cloned (e size n : Nat) (cs : List Value) (w : World) (E : Ending) (w' : World) : Prop :=
  ∃ v, E = .returned v ∧ w'.ownsRow w.heap.size e size v n cs ∧ Below w.heap.size w w'

theorem infoByte : (Try.prog.info? 5).map (fun i => (i.zero, i.size, i.bytes)) = some (some (.int .u8 0), 1, 1) := by kernel_rfl
theorem infoPage : (Try.prog.info? 69).map (fun i => (i.zero, i.size, i.bytes)) = some (some (.agg #[.int .i64 0, .slice none 0 0]), 2, 32) := by kernel_rfl
theorem infoItem : (Try.prog.info? 76).map (fun i => (i.zero, i.size, i.bytes)) = some (some (.agg #[.string ByteArray.empty, .int .i64 0, .int .i64 0, .int .i64 0, .int .i64 0, .string ByteArray.empty, .bool false, .int .i64 0, .int .i64 0]), 9, 88) := by kernel_rfl

theorem clone_bytes (cs : List Value) (n : Nat) (a : Option Addr) (c : Nat) (w : World) (h : CellsAt w a cs) (hn : cs.length = n * 1) (hone : cs.all (·.oneCell') = true) (hb : n * 1 ≤ 140737488355328) :
    Calls Try.prog 37 #[.slice a n c] w (Cloned 5 1 n cs w) := by
  have he := Lib.run_eql_slice_nil (P := Try.prog) w 67 5 a n c 0 0 Try.underlying67
  cases a with
  | none =>
    have h0 := h.none
    subst h0
    obtain rfl : n = 0 := by simp at hn; omega
    clear h hn hone hb
    go_enter Try.func37, Try.ntmps37
    go_wp2_with fail
    go_ret
    exact ⟨_, rfl, World.ownsRow_nil _ _ _ _, Below.refl _ _⟩
  | some ad =>
    obtain ⟨i0, hi, hz0, hz1, hz2⟩ := info_parts infoByte
    have hnews := fun (w' : World) (k : Keeps w w') => h.news k
    have HN := Lib.hid hnews
    have HO := Lib.hid (ones hone)
    have HL := Lib.hid hn
    clear hnews h hone hn
    go_enter Try.func37, Try.ntmps37
    go_wp2_with (at_builtin; go_must (refine wpList_append_own _ rfl (.tmp 5) (.tmp 6) 67 rfl w.heap.size 5 i0 (.int .u8 0) 1 1 Try.underlying67 hi hz0 hz1 hz2 rfl (by decide) _ 0 [] rfl (ownsRow_lit _ _ #[] _ w.heap.size 0 1 (Nat.le_refl _) rfl (Nat.zero_le _) rfl) ad n c cs rfl HL.out (HN.out _ (Below.keeps (by go_grown))) HO.out (by unfold maxLen; omega) (by simpa using hb) (by go_size) ?_))
    intro v1 w1 hown hgrow _
    have hbl : Below w.heap.size w w1 := Below.grown (by go_grown) hgrow (by go_size) (by intro k hk; have hka : w.heap.size = k := (by simpa [Value.ownBlock] using hk); exact hka ▸ Nat.le_refl _)
    have HOW := Lib.hid hown
    clear hown hgrow
    go_wp2_with fail
    go_ret
    exact ⟨_, rfl, HOW.out, hbl⟩

theorem clone_pages (cs : List Value) (n : Nat) (a : Option Addr) (c : Nat) (w : World) (h : CellsAt w a cs) (hn : cs.length = n * 2) (hone : cs.all (·.oneCell') = true) (hb : n * 32 ≤ 140737488355328) :
    Calls Try.prog 36 #[.slice a n c] w (Cloned 69 2 n cs w) := by
  have he := Lib.run_eql_slice_nil (P := Try.prog) w 26 69 a n c 0 0 Try.underlying26
  cases a with
  | none =>
    have h0 := h.none
    subst h0
    obtain rfl : n = 0 := by simp at hn; omega
    clear h hn hone hb
    go_enter Try.func36, Try.ntmps36
    go_wp2_with fail
    go_ret
    exact ⟨_, rfl, World.ownsRow_nil _ _ _ _, Below.refl _ _⟩
  | some ad =>
    obtain ⟨i0, hi, hz0, hz1, hz2⟩ := info_parts infoPage
    have hnews := fun (w' : World) (k : Keeps w w') => h.news k
    have HN := Lib.hid hnews
    have HO := Lib.hid (ones hone)
    have HL := Lib.hid hn
    clear hnews h hone hn
    go_enter Try.func36, Try.ntmps36
    go_wp2_with (at_builtin; go_must (refine wpList_append_own _ rfl (.tmp 5) (.tmp 6) 26 rfl w.heap.size 69 i0 (.agg #[.int .i64 0, .slice none 0 0]) 2 32 Try.underlying26 hi hz0 hz1 hz2 rfl (by decide) _ 0 [] rfl (ownsRow_lit _ _ #[] _ w.heap.size 0 2 (Nat.le_refl _) rfl (Nat.zero_le _) rfl) ad n c cs rfl HL.out (HN.out _ (Below.keeps (by go_grown))) HO.out (by unfold maxLen; omega) (by simpa using hb) (by go_size) ?_))
    intro v1 w1 hown hgrow _
    have hbl : Below w.heap.size w w1 := Below.grown (by go_grown) hgrow (by go_size) (by intro k hk; have hka : w.heap.size = k := (by simpa [Value.ownBlock] using hk); exact hka ▸ Nat.le_refl _)
    have HOW := Lib.hid hown
    clear hown hgrow
    go_wp2_with fail
    go_ret
    exact ⟨_, rfl, HOW.out, hbl⟩

theorem clone_items (cs : List Value) (n : Nat) (a : Option Addr) (c : Nat) (w : World) (h : CellsAt w a cs) (hn : cs.length = n * 9) (hone : cs.all (·.oneCell') = true) (hb : n * 88 ≤ 140737488355328) :
    Calls Try.prog 40 #[.slice a n c] w (Cloned 76 9 n cs w) := by
  have he := Lib.run_eql_slice_nil (P := Try.prog) w 38 76 a n c 0 0 Try.underlying38
  cases a with
  | none =>
    have h0 := h.none
    subst h0
    obtain rfl : n = 0 := by simp at hn; omega
    clear h hn hone hb
    go_enter Try.func40, Try.ntmps40
    go_wp2_with fail
    go_ret
    exact ⟨_, rfl, World.ownsRow_nil _ _ _ _, Below.refl _ _⟩
  | some ad =>
    obtain ⟨i0, hi, hz0, hz1, hz2⟩ := info_parts infoItem
    have hnews := fun (w' : World) (k : Keeps w w') => h.news k
    have HN := Lib.hid hnews
    have HO := Lib.hid (ones hone)
    have HL := Lib.hid hn
    clear hnews h hone hn
    go_enter Try.func40, Try.ntmps40
    go_wp2_with (at_builtin; go_must (refine wpList_append_own _ rfl (.tmp 5) (.tmp 6) 38 rfl w.heap.size 76 i0 (.agg #[.string ByteArray.empty, .int .i64 0, .int .i64 0, .int .i64 0, .int .i64 0, .string ByteArray.empty, .bool false, .int .i64 0, .int .i64 0]) 9 88 Try.underlying38 hi hz0 hz1 hz2 rfl (by decide) _ 0 [] rfl (ownsRow_lit _ _ #[] _ w.heap.size 0 9 (Nat.le_refl _) rfl (Nat.zero_le _) rfl) ad n c cs rfl HL.out (HN.out _ (Below.keeps (by go_grown))) HO.out (by unfold maxLen; omega) (by simpa using hb) (by go_size) ?_))
    intro v1 w1 hown hgrow _
    have hbl : Below w.heap.size w w1 := Below.grown (by go_grown) hgrow (by go_size) (by intro k hk; have hka : w.heap.size = k := (by simpa [Value.ownBlock] using hk); exact hka ▸ Nat.le_refl _)
    have HOW := Lib.hid hown
    clear hown hgrow
    go_wp2_with fail
    go_ret
    exact ⟨_, rfl, HOW.out, hbl⟩
end Go.Proofs.Ytjhfomihlobjgaa.D
