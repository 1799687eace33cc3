/-
  NARROWER THAN 'FOR EVERY INPUT', by the rows' own cells (each row's printed sentence says how): StoreClasses: laid · StoreChecks: laid · StoreTicks: laid · SnapEncodes: laid · SnapDecodes: laid · WirePrints: laid · SnapsOnce: laid.
  DERIVED. THE GIVEN ROWS OF THIS SEAT. 7 by the template 'for every input the law returns true; each argument reads behind the call as it read before'; 0 by the template 'total and deterministic' (their statements: YtbipegbgfdpaeaaDoorTotals.lean).
  GIVEN WITH THE SEED: the statements are not yours to turn. If you find one false, say at which input.
  Laid BY PROGRAM, IN A SANDBOX (cutbox-rows.mjs): the forced cells as the released guide's own fill.sh prints them over the translation 8ce2991bb76a5afa… (all of the seat's roots in one cut). By AI agents, Wed Nov 11 2026. No macro, syntax, notation, axiom, sorry.
-/
import Derived.Test.YtbipegbgfdpaeaaDoorChecked
import GoSem.Claim
import GoSem.ClaimJoined
import GoSem.ClaimMapViews
import Derived.JoinedTies
import Derived.KernelRfl
namespace Go.Proofs.YtbipegbgfdpaeaaDoor
/- THE CELL 'sum', in the pinned program and in every row, IS THE sha256 OF THE DUMP (.gsa) THAT YtbipegbgfdpaeaaDoorProg.lean LOADS. Nothing in Lean hashes anything: it is a label: what it is worth is what the hold of that sum in a sandbox is worth. -/
noncomputable def Tryd.pinned : Pinned := { name := "ytbipegbgfdpaeaadoor", sum := "8ce2991bb76a5afade07332d487f229dc74fde063c97f9ec7445ab031971bd54", checked := Tryd.checked }
namespace Rows
def none {H : Type} : Left H := { results := [], args := [] }

/- WHAT THE LISTED PACKAGE-LEVEL VARIABLES READ AS WHEN THE CALL BEGINS. Each datum BY PROGRAM (the guide's laid-datum.mjs) off the statement by which the dump's own 'gosem.cut.vars' lays the variable. In a bare row this is a premise. The card (YtbipegbgfdpaeaaDoorCards.lean) ties it to the program's text. -/
def laid_dovecote_store_chunks {H : Type} : DataW H := .agg [.lit (.int .i64 32), .lit (.int .i64 64), .lit (.int .i64 128), .lit (.int .i64 256)]
def laid_math_bits_deBruijn32tab {H : Type} : DataW H := .agg [.lit (.int .u8 0), .lit (.int .u8 1), .lit (.int .u8 28), .lit (.int .u8 2), .lit (.int .u8 29), .lit (.int .u8 14), .lit (.int .u8 24), .lit (.int .u8 3), .lit (.int .u8 30), .lit (.int .u8 22), .lit (.int .u8 20), .lit (.int .u8 15), .lit (.int .u8 25), .lit (.int .u8 17), .lit (.int .u8 4), .lit (.int .u8 8), .lit (.int .u8 31), .lit (.int .u8 27), .lit (.int .u8 13), .lit (.int .u8 23), .lit (.int .u8 21), .lit (.int .u8 19), .lit (.int .u8 16), .lit (.int .u8 7), .lit (.int .u8 26), .lit (.int .u8 12), .lit (.int .u8 18), .lit (.int .u8 6), .lit (.int .u8 11), .lit (.int .u8 5), .lit (.int .u8 10), .lit (.int .u8 9)]
def laid_math_bits_deBruijn64tab {H : Type} : DataW H := .agg [.lit (.int .u8 0), .lit (.int .u8 1), .lit (.int .u8 56), .lit (.int .u8 2), .lit (.int .u8 57), .lit (.int .u8 49), .lit (.int .u8 28), .lit (.int .u8 3), .lit (.int .u8 61), .lit (.int .u8 58), .lit (.int .u8 42), .lit (.int .u8 50), .lit (.int .u8 38), .lit (.int .u8 29), .lit (.int .u8 17), .lit (.int .u8 4), .lit (.int .u8 62), .lit (.int .u8 47), .lit (.int .u8 59), .lit (.int .u8 36), .lit (.int .u8 45), .lit (.int .u8 43), .lit (.int .u8 51), .lit (.int .u8 22), .lit (.int .u8 53), .lit (.int .u8 39), .lit (.int .u8 33), .lit (.int .u8 30), .lit (.int .u8 24), .lit (.int .u8 18), .lit (.int .u8 12), .lit (.int .u8 5), .lit (.int .u8 63), .lit (.int .u8 55), .lit (.int .u8 48), .lit (.int .u8 27), .lit (.int .u8 60), .lit (.int .u8 41), .lit (.int .u8 37), .lit (.int .u8 16), .lit (.int .u8 46), .lit (.int .u8 35), .lit (.int .u8 44), .lit (.int .u8 21), .lit (.int .u8 52), .lit (.int .u8 32), .lit (.int .u8 23), .lit (.int .u8 11), .lit (.int .u8 54), .lit (.int .u8 26), .lit (.int .u8 40), .lit (.int .u8 15), .lit (.int .u8 34), .lit (.int .u8 20), .lit (.int .u8 31), .lit (.int .u8 10), .lit (.int .u8 25), .lit (.int .u8 14), .lit (.int .u8 19), .lit (.int .u8 9), .lit (.int .u8 13), .lit (.int .u8 8), .lit (.int .u8 7), .lit (.int .u8 6)]
def laid_internal_strconv_uint64pow10 {H : Type} : DataW H := .agg [.lit (.int .u64 1), .lit (.int .u64 10), .lit (.int .u64 100), .lit (.int .u64 1000), .lit (.int .u64 10000), .lit (.int .u64 100000), .lit (.int .u64 1000000), .lit (.int .u64 10000000), .lit (.int .u64 100000000), .lit (.int .u64 1000000000), .lit (.int .u64 10000000000), .lit (.int .u64 100000000000), .lit (.int .u64 1000000000000), .lit (.int .u64 10000000000000), .lit (.int .u64 100000000000000), .lit (.int .u64 1000000000000000), .lit (.int .u64 10000000000000000), .lit (.int .u64 100000000000000000), .lit (.int .u64 1000000000000000000), .lit (.int .u64 10000000000000000000)]
def laid_dovecote_wire_told {H : Type} : DataW H := .agg [.lit (.string []), .lit (.string []), .lit (.string [83, 84, 79, 82, 69, 68]), .lit (.string [78, 79, 84, 95, 83, 84, 79, 82, 69, 68]), .lit (.string [69, 88, 73, 83, 84, 83]), .lit (.string [78, 79, 84, 95, 70, 79, 85, 78, 68]), .lit (.string [68, 69, 76, 69, 84, 69, 68]), .lit (.string []), .lit (.string [84, 79, 85, 67, 72, 69, 68]), .lit (.string [79, 75]), .lit (.string [69, 82, 82, 79, 82]), .lit (.string [83, 69, 82, 86, 69, 82, 95, 69, 82, 82, 79, 82, 32, 110, 111, 32, 114, 111, 111, 109]), .lit (.string [67, 76, 73, 69, 78, 84, 95, 69, 82, 82, 79, 82, 32, 110, 111, 32, 110, 117, 109, 98, 101, 114])]

/-- 'dovecotelaw.StoreClasses': WHATEVER THE INPUT: true; the input reads as it did. -/
def storeClassesSpec : ChangeSpec := { name := "storeClasses", fn := fun _ => fun
  | [d1, d2] => { results := [.lit (.bool true)], args := [d1, d2] }
  | _ => none }
def storeClassesRow : OpenClaim := { program := "ytbipegbgfdpaeaadoor", sum := "8ce2991bb76a5afade07332d487f229dc74fde063c97f9ec7445ab031971bd54", func := "dovecote/dovecotelaw.StoreClasses", spec := "storeClasses", unfollowed := true, recurses := true, named := ["dovecote/store.chunks"], apart := false, laid := [("dovecote/store.chunks", laid_dovecote_store_chunks)] }
def StoreClassesSaid : Prop := storeClassesRow.holds Tryd.pinned (OpenSpec.ofChange storeClassesSpec)

/-- ITS FALSE NEIGHBOUR: 'it returns false'. Refute it at one input. -/
def storeClassesWrong : ChangeSpec := { name := "storeClasses", fn := fun _ => fun
  | [d1, d2] => { results := [.lit (.bool false)], args := [d1, d2] }
  | _ => none }
def StoreClassesWrongFalsely : Prop := storeClassesRow.holds Tryd.pinned (OpenSpec.ofChange storeClassesWrong)

/-- 'dovecotelaw.StoreChecks': WHATEVER THE INPUT: true; the input reads as it did. -/
def storeChecksSpec : ChangeSpec := { name := "storeChecks", fn := fun _ => fun
  | [d] => { results := [.lit (.bool true)], args := [d] }
  | _ => none }
def storeChecksRow : OpenClaim := { program := "ytbipegbgfdpaeaadoor", sum := "8ce2991bb76a5afade07332d487f229dc74fde063c97f9ec7445ab031971bd54", func := "dovecote/dovecotelaw.StoreChecks", spec := "storeChecks", unfollowed := true, recurses := true, named := ["dovecote/store.chunks"], apart := false, laid := [("dovecote/store.chunks", laid_dovecote_store_chunks)] }
def StoreChecksSaid : Prop := storeChecksRow.holds Tryd.pinned (OpenSpec.ofChange storeChecksSpec)

/-- ITS FALSE NEIGHBOUR: 'it returns false'. Refute it at one input. -/
def storeChecksWrong : ChangeSpec := { name := "storeChecks", fn := fun _ => fun
  | [d] => { results := [.lit (.bool false)], args := [d] }
  | _ => none }
def StoreChecksWrongFalsely : Prop := storeChecksRow.holds Tryd.pinned (OpenSpec.ofChange storeChecksWrong)

/-- 'dovecotelaw.StoreTicks': WHATEVER THE INPUT: true; the input reads as it did. -/
def storeTicksSpec : ChangeSpec := { name := "storeTicks", fn := fun _ => fun
  | [d1, d2] => { results := [.lit (.bool true)], args := [d1, d2] }
  | _ => none }
def storeTicksRow : OpenClaim := { program := "ytbipegbgfdpaeaadoor", sum := "8ce2991bb76a5afade07332d487f229dc74fde063c97f9ec7445ab031971bd54", func := "dovecote/dovecotelaw.StoreTicks", spec := "storeTicks", unfollowed := true, recurses := true, named := ["dovecote/store.chunks"], apart := false, laid := [("dovecote/store.chunks", laid_dovecote_store_chunks)] }
def StoreTicksSaid : Prop := storeTicksRow.holds Tryd.pinned (OpenSpec.ofChange storeTicksSpec)

/-- ITS FALSE NEIGHBOUR: 'it returns false'. Refute it at one input. -/
def storeTicksWrong : ChangeSpec := { name := "storeTicks", fn := fun _ => fun
  | [d1, d2] => { results := [.lit (.bool false)], args := [d1, d2] }
  | _ => none }
def StoreTicksWrongFalsely : Prop := storeTicksRow.holds Tryd.pinned (OpenSpec.ofChange storeTicksWrong)

/-- 'dovecotelaw.SnapEncodes': WHATEVER THE INPUT: true; the input reads as it did. -/
def snapEncodesSpec : ChangeSpec := { name := "snapEncodes", fn := fun _ => fun
  | [d] => { results := [.lit (.bool true)], args := [d] }
  | _ => none }
def snapEncodesRow : OpenClaim := { program := "ytbipegbgfdpaeaadoor", sum := "8ce2991bb76a5afade07332d487f229dc74fde063c97f9ec7445ab031971bd54", func := "dovecote/dovecotelaw.SnapEncodes", spec := "snapEncodes", unfollowed := true, recurses := true, named := ["dovecote/store.chunks"], apart := false, laid := [("dovecote/store.chunks", laid_dovecote_store_chunks)] }
def SnapEncodesSaid : Prop := snapEncodesRow.holds Tryd.pinned (OpenSpec.ofChange snapEncodesSpec)

/-- ITS FALSE NEIGHBOUR: 'it returns false'. Refute it at one input. -/
def snapEncodesWrong : ChangeSpec := { name := "snapEncodes", fn := fun _ => fun
  | [d] => { results := [.lit (.bool false)], args := [d] }
  | _ => none }
def SnapEncodesWrongFalsely : Prop := snapEncodesRow.holds Tryd.pinned (OpenSpec.ofChange snapEncodesWrong)

/-- 'dovecotelaw.SnapDecodes': WHATEVER THE INPUT: true; the input reads as it did. -/
def snapDecodesSpec : ChangeSpec := { name := "snapDecodes", fn := fun _ => fun
  | [d] => { results := [.lit (.bool true)], args := [d] }
  | _ => none }
def snapDecodesRow : OpenClaim := { program := "ytbipegbgfdpaeaadoor", sum := "8ce2991bb76a5afade07332d487f229dc74fde063c97f9ec7445ab031971bd54", func := "dovecote/dovecotelaw.SnapDecodes", spec := "snapDecodes", unfollowed := true, recurses := true, named := ["dovecote/store.chunks"], apart := false, laid := [("dovecote/store.chunks", laid_dovecote_store_chunks)] }
def SnapDecodesSaid : Prop := snapDecodesRow.holds Tryd.pinned (OpenSpec.ofChange snapDecodesSpec)

/-- ITS FALSE NEIGHBOUR: 'it returns false'. Refute it at one input. -/
def snapDecodesWrong : ChangeSpec := { name := "snapDecodes", fn := fun _ => fun
  | [d] => { results := [.lit (.bool false)], args := [d] }
  | _ => none }
def SnapDecodesWrongFalsely : Prop := snapDecodesRow.holds Tryd.pinned (OpenSpec.ofChange snapDecodesWrong)

/-- 'dovecotelaw.WirePrints': WHATEVER THE INPUT: true; the input reads as it did. -/
def wirePrintsSpec : ChangeSpec := { name := "wirePrints", fn := fun _ => fun
  | [d] => { results := [.lit (.bool true)], args := [d] }
  | _ => none }
def wirePrintsRow : OpenClaim := { program := "ytbipegbgfdpaeaadoor", sum := "8ce2991bb76a5afade07332d487f229dc74fde063c97f9ec7445ab031971bd54", func := "dovecote/dovecotelaw.WirePrints", spec := "wirePrints", inPlace := ["internal/abi.NoEscape"], unfollowed := true, recurses := true, named := ["dovecote/wire.told", "internal/strconv.uint64pow10", "math/bits.deBruijn32tab", "math/bits.deBruijn64tab"], apart := false, laid := [("math/bits.deBruijn32tab", laid_math_bits_deBruijn32tab), ("math/bits.deBruijn64tab", laid_math_bits_deBruijn64tab), ("internal/strconv.uint64pow10", laid_internal_strconv_uint64pow10), ("dovecote/wire.told", laid_dovecote_wire_told)] }
def WirePrintsSaid : Prop := wirePrintsRow.holds Tryd.pinned (OpenSpec.ofChange wirePrintsSpec)

/-- ITS FALSE NEIGHBOUR: 'it returns false'. Refute it at one input. -/
def wirePrintsWrong : ChangeSpec := { name := "wirePrints", fn := fun _ => fun
  | [d] => { results := [.lit (.bool false)], args := [d] }
  | _ => none }
def WirePrintsWrongFalsely : Prop := wirePrintsRow.holds Tryd.pinned (OpenSpec.ofChange wirePrintsWrong)

/-- 'dovecotekeep.SnapsOnce': WHATEVER THE INPUT: true; the input reads as it did. -/
def snapsOnceSpec : ChangeSpec := { name := "snapsOnce", fn := fun _ => fun
  | [d] => { results := [.lit (.bool true)], args := [d] }
  | _ => none }
def snapsOnceRow : OpenClaim := { program := "ytbipegbgfdpaeaadoor", sum := "8ce2991bb76a5afade07332d487f229dc74fde063c97f9ec7445ab031971bd54", func := "dovecote/dovecotekeep.SnapsOnce", spec := "snapsOnce", unfollowed := true, recurses := true, named := ["dovecote/store.chunks"], apart := false, laid := [("dovecote/store.chunks", laid_dovecote_store_chunks)] }
def SnapsOnceSaid : Prop := snapsOnceRow.holds Tryd.pinned (OpenSpec.ofChange snapsOnceSpec)

/-- ITS FALSE NEIGHBOUR: 'it returns false'. Refute it at one input. -/
def snapsOnceWrong : ChangeSpec := { name := "snapsOnce", fn := fun _ => fun
  | [d] => { results := [.lit (.bool false)], args := [d] }
  | _ => none }
def SnapsOnceWrongFalsely : Prop := snapsOnceRow.holds Tryd.pinned (OpenSpec.ofChange snapsOnceWrong)

/- THE SECOND FORM. 'bulk': how many values and letters a reading holds, each counted each time it is reached (what is shared counts as often as it is met; a slice's spare places count too). A statement '..UptoSaid' is the law's where the arguments, and the package variables that the reading takes, are together of bulk at most 1048576: NARROWER than '..Said'. Prove '..Said' where nothing that the law and all that it calls make is longer than what came in: it says more and counts as full. Else prove '..UptoSaid'. A law counts once. -/
mutual
def uptoBulk {H : Type} : DataW H → Nat
  | .lit (.string bytes) => bytes.length + 1
  | .lit _ => 1
  | .nil => 1
  | .ptr d => uptoBulk d + 1
  | .slice elems spare => uptoBulkAll elems + uptoBulkAll spare + 1
  | .agg parts => uptoBulkAll parts + 1
  | .iface _ d => uptoBulk d + 1
  | .map entries => uptoBulkEntries entries + 1
  | .held _ => 1
def uptoBulkAll {H : Type} : List (DataW H) → Nat
  | [] => 0
  | d :: r => uptoBulk d + uptoBulkAll r
def uptoBulkEntries {H : Type} : List (Lit × DataW H) → Nat
  | [] => 0
  | x :: r => uptoBulkEntry x + uptoBulkEntries r
def uptoBulkEntry {H : Type} : Lit × DataW H → Nat
  | (.string bytes, d) => bytes.length + uptoBulk d + 1
  | (_, d) => uptoBulk d + 1
 end
def uptoSmall : (H : Type) → List (DataW H) → Bool := fun _ ds => decide (uptoBulkAll ds ≤ 1048576)
def OpenSpec.upto (s : _root_.Go.ChangeSpec) : _root_.Go.OpenSpec := { _root_.Go.OpenSpec.ofChange s with cond := some uptoSmall }

/-- 'dovecotelaw.StoreClasses', WHERE WHAT IT READS IS OF BULK AT MOST 1048576: true; the input reads as it did. -/
def storeClassesUptoRow : OpenClaim := { program := "ytbipegbgfdpaeaadoor", sum := "8ce2991bb76a5afade07332d487f229dc74fde063c97f9ec7445ab031971bd54", func := "dovecote/dovecotelaw.StoreClasses", spec := "storeClasses", unfollowed := true, recurses := true, named := ["dovecote/store.chunks"], apart := false, laid := [("dovecote/store.chunks", laid_dovecote_store_chunks)], narrowed := true }
def StoreClassesUptoSaid : Prop := storeClassesUptoRow.holds Tryd.pinned (OpenSpec.upto storeClassesSpec)

/-- 'dovecotelaw.StoreChecks', WHERE WHAT IT READS IS OF BULK AT MOST 1048576: true; the input reads as it did. -/
def storeChecksUptoRow : OpenClaim := { program := "ytbipegbgfdpaeaadoor", sum := "8ce2991bb76a5afade07332d487f229dc74fde063c97f9ec7445ab031971bd54", func := "dovecote/dovecotelaw.StoreChecks", spec := "storeChecks", unfollowed := true, recurses := true, named := ["dovecote/store.chunks"], apart := false, laid := [("dovecote/store.chunks", laid_dovecote_store_chunks)], narrowed := true }
def StoreChecksUptoSaid : Prop := storeChecksUptoRow.holds Tryd.pinned (OpenSpec.upto storeChecksSpec)

/-- 'dovecotelaw.StoreTicks', WHERE WHAT IT READS IS OF BULK AT MOST 1048576: true; the input reads as it did. -/
def storeTicksUptoRow : OpenClaim := { program := "ytbipegbgfdpaeaadoor", sum := "8ce2991bb76a5afade07332d487f229dc74fde063c97f9ec7445ab031971bd54", func := "dovecote/dovecotelaw.StoreTicks", spec := "storeTicks", unfollowed := true, recurses := true, named := ["dovecote/store.chunks"], apart := false, laid := [("dovecote/store.chunks", laid_dovecote_store_chunks)], narrowed := true }
def StoreTicksUptoSaid : Prop := storeTicksUptoRow.holds Tryd.pinned (OpenSpec.upto storeTicksSpec)

/-- 'dovecotelaw.SnapEncodes', WHERE WHAT IT READS IS OF BULK AT MOST 1048576: true; the input reads as it did. -/
def snapEncodesUptoRow : OpenClaim := { program := "ytbipegbgfdpaeaadoor", sum := "8ce2991bb76a5afade07332d487f229dc74fde063c97f9ec7445ab031971bd54", func := "dovecote/dovecotelaw.SnapEncodes", spec := "snapEncodes", unfollowed := true, recurses := true, named := ["dovecote/store.chunks"], apart := false, laid := [("dovecote/store.chunks", laid_dovecote_store_chunks)], narrowed := true }
def SnapEncodesUptoSaid : Prop := snapEncodesUptoRow.holds Tryd.pinned (OpenSpec.upto snapEncodesSpec)

/-- 'dovecotelaw.SnapDecodes', WHERE WHAT IT READS IS OF BULK AT MOST 1048576: true; the input reads as it did. -/
def snapDecodesUptoRow : OpenClaim := { program := "ytbipegbgfdpaeaadoor", sum := "8ce2991bb76a5afade07332d487f229dc74fde063c97f9ec7445ab031971bd54", func := "dovecote/dovecotelaw.SnapDecodes", spec := "snapDecodes", unfollowed := true, recurses := true, named := ["dovecote/store.chunks"], apart := false, laid := [("dovecote/store.chunks", laid_dovecote_store_chunks)], narrowed := true }
def SnapDecodesUptoSaid : Prop := snapDecodesUptoRow.holds Tryd.pinned (OpenSpec.upto snapDecodesSpec)

/-- 'dovecotelaw.WirePrints', WHERE WHAT IT READS IS OF BULK AT MOST 1048576: true; the input reads as it did. -/
def wirePrintsUptoRow : OpenClaim := { program := "ytbipegbgfdpaeaadoor", sum := "8ce2991bb76a5afade07332d487f229dc74fde063c97f9ec7445ab031971bd54", func := "dovecote/dovecotelaw.WirePrints", spec := "wirePrints", inPlace := ["internal/abi.NoEscape"], unfollowed := true, recurses := true, named := ["dovecote/wire.told", "internal/strconv.uint64pow10", "math/bits.deBruijn32tab", "math/bits.deBruijn64tab"], apart := false, laid := [("math/bits.deBruijn32tab", laid_math_bits_deBruijn32tab), ("math/bits.deBruijn64tab", laid_math_bits_deBruijn64tab), ("internal/strconv.uint64pow10", laid_internal_strconv_uint64pow10), ("dovecote/wire.told", laid_dovecote_wire_told)], narrowed := true }
def WirePrintsUptoSaid : Prop := wirePrintsUptoRow.holds Tryd.pinned (OpenSpec.upto wirePrintsSpec)

/-- 'dovecotekeep.SnapsOnce', WHERE WHAT IT READS IS OF BULK AT MOST 1048576: true; the input reads as it did. -/
def snapsOnceUptoRow : OpenClaim := { program := "ytbipegbgfdpaeaadoor", sum := "8ce2991bb76a5afade07332d487f229dc74fde063c97f9ec7445ab031971bd54", func := "dovecote/dovecotekeep.SnapsOnce", spec := "snapsOnce", unfollowed := true, recurses := true, named := ["dovecote/store.chunks"], apart := false, laid := [("dovecote/store.chunks", laid_dovecote_store_chunks)], narrowed := true }
def SnapsOnceUptoSaid : Prop := snapsOnceUptoRow.holds Tryd.pinned (OpenSpec.upto snapsOnceSpec)

end Rows
end Go.Proofs.YtbipegbgfdpaeaaDoor
