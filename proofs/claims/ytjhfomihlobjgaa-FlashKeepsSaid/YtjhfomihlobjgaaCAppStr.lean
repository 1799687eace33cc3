/-
  Laws: a string's bytes behind bytes of the call's own, and where the new slice lies; two appends in a row. Lemmas on worlds alone.
-/
import Derived.Test.YtjhfomihlobjgaaCBox
import Derived.Lib.AppendStr
namespace Go.Proofs.Ytjhfomihlobjgaa.D
open Go.RowKit
theorem grown_two {a b c : World} {r : Option Nat} {g : Nat} (h : a.grownBy b r) (k : b.grownBy c (some g)) (hat : r = some g ∨ a.heap.size ≤ g) : a.grownBy c r :=
  ⟨k.os.trans h.os, k.tape.trans h.tape, k.output.trans h.output, Nat.le_trans h.size k.size, fun j hj hne => (k.block j (Nat.lt_of_lt_of_le hj h.size) (fun e => by
    cases e
    rcases hat with e | e
    · exact hne e.symm
    · omega)).trans (h.block j hj hne)⟩
/-- where the new slice lies -/
theorem append_string_lies (w : World) (base : Nat) (ty : TypeId) (i : TypeInfo) (hi : Try.prog.info? 5 = some i) (hz : i.zero = some (.int .u8 0)) (hsize : i.size = 1) (hby : i.bytes = 1)
    (va : Option Addr) (n c : Nat) (xs : List Value) (hown : w.ownsRow base 5 1 (.slice va n c) n xs) (s : ByteArray) (hbytes : n + s.size ≤ 140737488355328) (hbase : base ≤ w.heap.size) :
    ∃ ua uc w', (Builtin.append_ #[67, 9] ty #[.slice va n c, .string s]).run Try.prog w = .ok (.slice ua (n + s.size) uc) w' ∧ w'.ownsRow base 5 1 (.slice ua (n + s.size) uc) (n + s.size) (xs ++ Lib.strCells s) ∧
      w.grownBy w' (Value.slice va n c).ownBlock ∧ (∀ k, (Value.slice ua (n + s.size) uc).ownBlock = some k → (Value.slice va n c).ownBlock = some k ∨ k = w.heap.size) := by
  obtain ⟨v', w', hr, h1, h2, h3⟩ := Lib.run_append_own_string (P := Try.prog) w base 67 9 ty 5 i Try.underlying67 Try.underlying9 hi hz hsize hby _ n xs hown s (by unfold maxLen; omega) hbytes hbase
  obtain ⟨ua, uc, rfl⟩ := own_slice h1
  refine ⟨ua, uc, w', hr, h1, h2, ?_⟩
  intro k hk
  rcases hown.2 with ⟨hv, hn⟩ | ⟨g, cap, cur, hv, hbg, hg, hnc, hcm, hcs, htake⟩
  · cases hv
    by_cases hs : s.size = 0
    · have := h3.2 ⟨rfl, hs⟩
      rw [this] at hk; cases hk
    · have hr2 := run_append_nil_string (P := Try.prog) w 67 9 ty 5 i (.int .u8 0) Try.underlying67 Try.underlying9 hi hz s (by omega) (by omega) (by rw [hby]; omega)
      have e := hr.symm.trans hr2
      simp only [Result.ok.injEq, Value.slice.injEq] at e
      rw [e.1.1] at hk
      right; exact (Option.some.inj hk).symm
  · cases hv
    by_cases hroom : n + s.size ≤ c
    · have hr2 := Lib.run_append_room_string (P := Try.prog) w 67 9 ty 5 i Try.underlying67 Try.underlying9 hi hsize g n c cur hg s hroom (by omega)
      have e := hr.symm.trans hr2
      simp only [Result.ok.injEq, Value.slice.injEq] at e
      rw [e.1.1] at hk
      left; exact hk
    · have holds : ∀ j u, xs[j]? = some u → w.cell? ((⟨g, 0, none⟩ : Addr).add j) = some u := hown.cells (g := g) rfl
      have hxl : xs.length = n := by simpa using hown.1
      have hr2 := Lib.run_append_grow_string (P := Try.prog) w 67 9 ty 5 i (.int .u8 0) Try.underlying67 Try.underlying9 hi hz ⟨g, 0, none⟩ n c xs (by rw [hsize]; simpa using hxl) holds s (by omega) (by omega) (by rw [hby]; exact growslice_fits (by omega) (by omega))
      have e := hr.symm.trans hr2
      simp only [Result.ok.injEq, Value.slice.injEq] at e
      rw [e.1.1] at hk
      right; exact (Option.some.inj hk).symm
/-- at the list of a plain region's operations -/
theorem list_string {ops : Array Oper} {rest : List Oper} {o : Oper} {a : Act} {Q : Exit → Act → World → Prop} (w : World) (hgd : o.guard = none) (sl x : Operand)
    (ho : o.op = .call { callee := .builtin .append, args := #[sl, x], argTypes := #[67, 9] }) (base : Nat)
    (va : Option Addr) (n c : Nat) (xs : List Value) (hs : a.eval sl = .slice va n c) (hown : w.ownsRow base 5 1 (.slice va n c) n xs) (s : ByteArray) (hx : a.eval x = .string s)
    (hbytes : n + s.size ≤ 140737488355328) (hbase : base ≤ w.heap.size)
    (h : ∀ ua uc w', w'.ownsRow base 5 1 (.slice ua (n + s.size) uc) (n + s.size) (xs ++ Lib.strCells s) → w.grownBy w' (Value.slice va n c).ownBlock →
      (∀ k, (Value.slice ua (n + s.size) uc).ownBlock = some k → (Value.slice va n c).ownBlock = some k ∨ k = w.heap.size) → wpList Try.prog ops Q rest (a.put o.dst (.slice ua (n + s.size) uc)) w') : wpList Try.prog ops Q (o :: rest) a w := by
  obtain ⟨i0, hi, hz0, hz1, hz2⟩ := info_parts infoByte
  refine wpList_plain hgd fun K hK => ?_
  obtain ⟨ua, uc, w', hr, h2, h3, h4⟩ := append_string_lies w base o.type i0 hi hz0 hz1 hz2 va n c xs hown s hbytes hbase
  unfold Oper.wp execOp
  simp only [ho, resolve, invoke, builtin, Sem.run_bind, Sem.run_pure, Result.andThen_ok, List.map_toArray, List.map_cons, List.map_nil, hs, hx, hr]
  exact hK _ _ (h ua uc w' h2 h3 h4)
end Go.Proofs.Ytjhfomihlobjgaa.D
