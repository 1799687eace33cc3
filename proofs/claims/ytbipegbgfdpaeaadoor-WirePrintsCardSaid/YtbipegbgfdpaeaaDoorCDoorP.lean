/-
  What the listed tables give the law of replies: their cells. A world that holds them.
-/
import Derived.Test.YtbipegbgfdpaeaaDoorCPrint
import Derived.Test.YtbipegbgfdpaeaaDoorCLaw
import Derived.Test.YtbipegbgfdpaeaaDoorCards
import Derived.Test.YtbipegbgfdpaeaaDoorTie
import Derived.Deep.DeepHandedRow
import Derived.Lib.LaidTab
import Derived.Stop.LaidErr
namespace Go.Proofs.YtbipegbgfdpaeaaDoor.D
open Go.ChangeShapes Go.WideShapes Go.ChangeAt Go.RowKit
def strData {H : Type} (ss : List Str) : DataW H := .agg (ss.map fun s => .lit (.string s))
theorem cells_of_strs {H : Type} {enc : TypeId × Value → H} {P : Program} {w : World} {base : Nat} {sp : Nat → Bool} {held : Bool} {fuel : Nat} {t e : TypeId} {n : Nat} {cs : List Value} {ss : List Str} {p : List MemPlace}
    (ht : P.underlying t = some (.array n e)) (he : P.underlying e = some .string) (hce : P.cellsOf e = 1) (hct : P.cellsOf t = n)
    (h : DataW.trod enc P w base sp held fuel t cs = some (strData ss, p)) : cs = ss.map fun s => Value.string ⟨s.toArray⟩ := by
  cases fuel with
  | zero => simp [DataW.trod] at h
  | succ fuel =>
    simp only [DataW.trod, ht, hce, hct, Nat.mul_one] at h
    split at h
    · rename_i hl
      obtain ⟨xs, hm, hx⟩ := Option.map_eq_some_iff.1 h
      have hxs : xs.map (·.1) = ss.map fun s => (DataW.lit (.string s) : DataW H) := by
        have := congrArg Prod.fst hx
        simpa [strData] using this
      have hxl : xs.length = n := by simpa using Lib.mapM_length hm
      have hzl : ss.length = n := by
        have := congrArg List.length hxs
        simp at this
        omega
      apply List.ext_getElem?
      intro i
      by_cases hi : i < n
      · obtain ⟨b, hb, hf⟩ := Lib.mapM_at hm i i (by simp [hi])
        obtain ⟨s, hc, rfl, _⟩ := DataW.trod_string he hf
        have h1 : cs[i]? = some (.string s) := by
          have := congrArg (·[0]?) hc
          simpa [List.getElem?_take, List.getElem?_drop] using this
        have h2 : (xs.map (·.1))[i]? = some (DataW.lit (.string s.data.toList) : DataW H) := by simp [hb]
        rw [hxs] at h2
        simp only [List.getElem?_map, Option.map_eq_some_iff, DataW.lit.injEq, Lit.string.injEq] at h2
        obtain ⟨z', hz', rfl⟩ := h2
        have e : (⟨s.data.toList.toArray⟩ : ByteArray) = s := mk_bl s
        simp [h1, hz']
      · rw [List.getElem?_eq_none (by omega), List.getElem?_eq_none (by simp; omega)]
    · cases h
theorem strs_of_head {P : Program} {W : World} {name : String} {ss : List Str} {rest : List (String × DataW Unit)} {g : Nat} {t e : TypeId} {n : Nat}
    (hg : P.globalNamed name = some g) (hty : (P.globals[g]?).map (·.type) = some t) (ht : P.underlying t = some (.array n e)) (he : P.underlying e = some .string) (hce : P.cellsOf e = 1) (hct : P.cellsOf t = n)
    (h : laidMet P ((name, strData ss) :: rest) W) : W.var? P name = some (ss.map fun s => Value.string ⟨s.toArray⟩).toArray := by
  obtain ⟨ps, ⟨g', t', cs, fuel, p, q, hg', ht', hvar, hd, _, _⟩, _⟩ := h
  obtain rfl := Option.some.inj (hg.symm.trans hg')
  obtain rfl := Option.some.inj (hty.symm.trans ht')
  rw [hvar, ← cells_of_strs ht he hce hct hd]
def toldTab : List Str := [[], [], [83, 84, 79, 82, 69, 68], [78, 79, 84, 95, 83, 84, 79, 82, 69, 68], [69, 88, 73, 83, 84, 83], [78, 79, 84, 95, 70, 79, 85, 78, 68], [68, 69, 76, 69, 84, 69, 68], [], [84, 79, 85, 67, 72, 69, 68], [79, 75], [69, 82, 82, 79, 82], [83, 69, 82, 86, 69, 82, 95, 69, 82, 82, 79, 82, 32, 110, 111, 32, 114, 111, 111, 109], [67, 76, 73, 69, 78, 84, 95, 69, 82, 82, 79, 82, 32, 110, 111, 32, 110, 117, 109, 98, 101, 114]]
theorem gTold : Tryd.prog.globalNamed "dovecote/wire.told" = some 1 := by kernel_rfl
theorem told_of {W : World} (h : laidMetH Tryd.prog Rows.wirePrintsRow.laid W) : Told W := by
  have h' : laidMet Tryd.prog Rows.wirePrintsRow.laid W := h
  have ht := strs_of_head (ss := toldTab) (rest := []) gTold (by kernel_rfl : (Tryd.prog.globals[1]?).map (·.type) = some 90) Tryd.underlying90 Tryd.underlying9 (by kernel_rfl) (by kernel_rfl) h'.tail.tail.tail
  intro i hi
  have hc := World.var?_cell gTold ht i
  rw [hc]
  match i, hi with
  | 0, _ => rfl
  | 1, _ => rfl
  | 2, _ => rfl
  | 3, _ => rfl
  | 4, _ => rfl
  | 5, _ => rfl
  | 6, _ => rfl
  | 7, _ => rfl
  | 8, _ => rfl
  | 9, _ => rfl
  | 10, _ => rfl
  | 11, _ => rfl
  | 12, _ => rfl
theorem powtab_of {W : World} {rest : List (String × DataW Unit)} (h : laidMet Tryd.prog (("internal/strconv.uint64pow10", Rows.laid_internal_strconv_uint64pow10) :: rest) W) : PowTab W :=
  Lib.tabIs_of_head (rest := rest) gPow (by kernel_rfl : (Tryd.prog.globals[2]?).map (·.type) = some 127) Tryd.underlying127 Tryd.underlying121 (by kernel_rfl) (by kernel_rfl) h
theorem pow_of {W : World} (h : laidMetH Tryd.prog Rows.wirePrintsRow.laid W) : PowTab W := by
  have h' : laidMet Tryd.prog Rows.wirePrintsRow.laid W := h
  exact powtab_of h'.tail.tail
def layCells (cs : Array Value) : Obj → Obj
  | .cells _ t frozen => .cells cs t frozen
  | o => o
noncomputable def laidWorldP (os : Os) : World :=
  { World.holding Tryd.prog os ⟨#[], #[], []⟩ with heap := ((((World.holding Tryd.prog os ⟨#[], #[], []⟩).heap.modify 3 (layCells #[.int .u8 0, .int .u8 1, .int .u8 28, .int .u8 2, .int .u8 29, .int .u8 14, .int .u8 24, .int .u8 3, .int .u8 30, .int .u8 22, .int .u8 20, .int .u8 15, .int .u8 25, .int .u8 17, .int .u8 4, .int .u8 8, .int .u8 31, .int .u8 27, .int .u8 13, .int .u8 23, .int .u8 21, .int .u8 19, .int .u8 16, .int .u8 7, .int .u8 26, .int .u8 12, .int .u8 18, .int .u8 6, .int .u8 11, .int .u8 5, .int .u8 10, .int .u8 9])).modify 4 (layCells #[.int .u8 0, .int .u8 1, .int .u8 56, .int .u8 2, .int .u8 57, .int .u8 49, .int .u8 28, .int .u8 3, .int .u8 61, .int .u8 58, .int .u8 42, .int .u8 50, .int .u8 38, .int .u8 29, .int .u8 17, .int .u8 4, .int .u8 62, .int .u8 47, .int .u8 59, .int .u8 36, .int .u8 45, .int .u8 43, .int .u8 51, .int .u8 22, .int .u8 53, .int .u8 39, .int .u8 33, .int .u8 30, .int .u8 24, .int .u8 18, .int .u8 12, .int .u8 5, .int .u8 63, .int .u8 55, .int .u8 48, .int .u8 27, .int .u8 60, .int .u8 41, .int .u8 37, .int .u8 16, .int .u8 46, .int .u8 35, .int .u8 44, .int .u8 21, .int .u8 52, .int .u8 32, .int .u8 23, .int .u8 11, .int .u8 54, .int .u8 26, .int .u8 40, .int .u8 15, .int .u8 34, .int .u8 20, .int .u8 31, .int .u8 10, .int .u8 25, .int .u8 14, .int .u8 19, .int .u8 9, .int .u8 13, .int .u8 8, .int .u8 7, .int .u8 6])).modify 2 (layCells #[.int .u64 1, .int .u64 10, .int .u64 100, .int .u64 1000, .int .u64 10000, .int .u64 100000, .int .u64 1000000, .int .u64 10000000, .int .u64 100000000, .int .u64 1000000000, .int .u64 10000000000, .int .u64 100000000000, .int .u64 1000000000000, .int .u64 10000000000000, .int .u64 100000000000000, .int .u64 1000000000000000, .int .u64 10000000000000000, .int .u64 100000000000000000, .int .u64 1000000000000000000, .int .u64 10000000000000000000])).modify 1 (layCells #[.string ⟨#[]⟩, .string ⟨#[]⟩, .string ⟨#[83, 84, 79, 82, 69, 68]⟩, .string ⟨#[78, 79, 84, 95, 83, 84, 79, 82, 69, 68]⟩, .string ⟨#[69, 88, 73, 83, 84, 83]⟩, .string ⟨#[78, 79, 84, 95, 70, 79, 85, 78, 68]⟩, .string ⟨#[68, 69, 76, 69, 84, 69, 68]⟩, .string ⟨#[]⟩, .string ⟨#[84, 79, 85, 67, 72, 69, 68]⟩, .string ⟨#[79, 75]⟩, .string ⟨#[69, 82, 82, 79, 82]⟩, .string ⟨#[83, 69, 82, 86, 69, 82, 95, 69, 82, 82, 79, 82, 32, 110, 111, 32, 114, 111, 111, 109]⟩, .string ⟨#[67, 76, 73, 69, 78, 84, 95, 69, 82, 82, 79, 82, 32, 110, 111, 32, 110, 117, 109, 98, 101, 114]⟩]) }

end Go.Proofs.YtbipegbgfdpaeaaDoor.D
