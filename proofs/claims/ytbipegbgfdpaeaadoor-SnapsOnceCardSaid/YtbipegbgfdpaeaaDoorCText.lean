/-
  Contracts: snap's writer of texts, its sum; ref.withText, ref.SealOf.
-/
import Derived.Test.YtbipegbgfdpaeaaDoorCSev
namespace Go.Proofs.YtbipegbgfdpaeaaDoor.D
open Go.RowKit
theorem strCells_eq (s : ByteArray) : Lib.strCells s = (bl s).map byteV := rfl
theorem text_eqs (l : Str) (s : ByteArray) : l.length + (sev s.size).length + s.size = ((l ++ sev s.size) ++ bl s).length ∧ l.map byteV ++ ((sev s.size).map byteV ++ Lib.strCells s) = ((l ++ sev s.size) ++ bl s).map byteV := by
  constructor
  · rw [List.length_append, List.length_append, bl_length]
  · rw [strCells_eq]; simp
set_option maxRecDepth 100000 in
set_option maxHeartbeats 1000000 in
theorem w_text (s : ByteArray) (hs : s.size ≤ 1000000) (base g : Nat) (l : Str) (w : World) (h : Writer base g w l) (hl : l.length + 10 + s.size ≤ 140737488355328) :
    Calls Tryd.prog 40 #[.pointer (some ⟨g, 0, none⟩), .string s] w (NumEnd base g (l ++ textOf (bl s)) w) := by
  have HW := Lib.hid h
  have hsl := sev_le (n := s.size) (by omega)
  have HE : Hid ((l ++ sev s.size) ++ bl s = l ++ textOf (bl s)) := by show _ = _; unfold textOf; rw [bl_length, List.append_assoc]
  clear h
  obtain ⟨i0, hi, hz0, hz1, hz2⟩ := info_parts infoByte
  go_enter Tryd.func40, Tryd.ntmps40
  go_wp2_with fail
  refine (w_number s.size (by omega) base g l _ HW.out.f (by omega)).mono ?_
  rintro e w1 ⟨rfl, hW1, hT1⟩
  obtain ⟨⟨v, hh, how⟩, hbig⟩ := hW1
  have c0 : w1.cell? ⟨g, 0, none⟩ = some v := by rw [cell_of_row w1 _ _ _ _ _ hh]; rfl
  have HH := Lib.hid hh
  have HOW := Lib.hid how
  have HT1 := Lib.hid hT1
  have hlen : (l ++ sev s.size).length + s.size ≤ 140737488355328 := by rw [List.length_append]; omega
  clear hh how hT1
  go_wp2_with (at_builtin; go_must (refine Lib.wpList_append_own_string _ rfl (.tmp 12) (.tmp 13) 38 9 rfl base 5 i0 Tryd.underlying38 Tryd.underlying9 hi hz0 hz1 hz2 _ (l ++ sev s.size).length ((l ++ sev s.size).map byteV) rfl HOW.out s rfl (by unfold maxLen; omega) (by omega) (by omega) ?_))
  intro v1 w2 how1 hgr _
  obtain ⟨va1, vc1, rfl⟩ := own_slice how1
  obtain ⟨hW1, hWT1, fz1, cc1⟩ := writer_put (v1 := .slice va1 (l.length + (sev s.size).length + s.size) vc1) (l1 := (l ++ sev s.size) ++ bl s) HH.out (.inl HOW.out) hbig (Below.refl _ _) hgr (by rw [← (text_eqs l s).1, ← (text_eqs l s).2]; exact how1)
  rw [HE.out] at hW1
  have HW1 := Lib.hid hW1
  have HWT1 := Lib.hid (HT1.out.trans hWT1)
  have fz := fz1 0
  clear how1 hgr hW1 hWT1 fz1 c0
  go_wp2_with fail
  go_end0
  exact ⟨rfl, HW1.out, HWT1.out⟩
/-- what was there stays, but rows of bytes from the base on -/
structure GrewB (base : Nat) (w w' : World) : Prop where
  below : Below base w w'
  size : w.heap.size ≤ w'.heap.size
  same : ∀ (k : Nat) (cs : Array Value) (T : TypeId) (fr : Nat × Nat), w.heap[k]? = some (Obj.cells cs T fr) → T ≠ 5 → w'.heap[k]? = some (Obj.cells cs T fr)
theorem GrewB.refl (base : Nat) (w : World) : GrewB base w w := ⟨Below.refl _ _, Nat.le_refl _, fun _ _ _ _ h _ => h⟩
theorem GrewB.trans {base : Nat} {a b c : World} (h : GrewB base a b) (k : GrewB base b c) : GrewB base a c := ⟨h.below.trans k.below, Nat.le_trans h.size k.size, fun j cs T fr h1 h2 => k.same j cs T fr (h.same j cs T fr h1 h2) h2⟩
theorem GrewB.of_below {base : Nat} {w w' : World} (h : Below w.heap.size w w') (hb : base ≤ w.heap.size) : GrewB base w w' := ⟨h.mono hb, h.size, fun k _ _ _ h1 _ => (h.block k (Array.getElem?_eq_some_iff.1 h1).1).trans h1⟩
theorem GrewB.of_grown {base : Nat} {w w' : World} {v : Value} {n : Nat} {xs : List Value} (how : w.ownsRow base 5 1 v n xs) (hg : w.grownBy w' v.ownBlock) (hb : base ≤ w.heap.size) : GrewB base w w' := by
  refine ⟨(Below.refl _ _).grown hg hb (fun b e => (how.lt b e).1), hg.size, fun k cs T fr h1 hT => ?_⟩
  rw [hg.block k (Array.getElem?_eq_some_iff.1 h1).1 ?_]
  · exact h1
  · intro e
    rcases how.2 with ⟨hv, _⟩ | ⟨g, cap, cur, hv, _, hh, _⟩
    · rw [hv] at e; cases e
    · rw [hv] at e
      obtain rfl : g = k := by simpa [Value.ownBlock] using e.symm
      rw [hh] at h1
      simp only [Option.some.injEq, Obj.cells.injEq] at h1
      exact hT h1.2.1.symm
def GrewEnd (base : Nat) (l : Str) (w : World) (e : Ending) (w' : World) : Prop := ∃ v, e = .returned v ∧ w'.ownsRow base 5 1 v l.length (l.map byteV) ∧ GrewB base w w'
set_option maxRecDepth 100000 in
set_option maxHeartbeats 1000000 in
theorem ref_withText (s : ByteArray) (hs : s.size ≤ 1000000) (base : Nat) (l : Str) (va : Option Addr) (vc : Nat) (w : World) (h : w.ownsRow base 5 1 (.slice va l.length vc) l.length (l.map byteV)) (hbase : base ≤ w.heap.size) (hl : l.length + 10 + s.size ≤ 140737488355328) :
    Calls Tryd.prog 43 #[.slice va l.length vc, .string s] w (GrewEnd base (l ++ textOf (bl s)) w) := by
  have HW := Lib.hid h
  have hsl := sev_le (n := s.size) (by omega)
  have hsp := sev_pos s.size
  have HE : Hid ((l ++ sev s.size) ++ bl s = l ++ textOf (bl s)) := by show _ = _; unfold textOf; rw [bl_length, List.append_assoc]
  clear h
  obtain ⟨i0, hi, hz0, hz1, hz2⟩ := info_parts infoByte
  go_enter Tryd.func43, Tryd.ntmps43
  go_wp2_with fail
  refine (ref_sevens s.size (by omega) _).mono ?_
  rintro e w1 ⟨v, rfl, how, hb⟩
  obtain ⟨g, cap, rfl, _, _, _, _, hcell⟩ := own_shape how hsp
  have HN : Hid (∀ j u, ((sev s.size).map byteV)[j]? = some u → w1.cell? ((⟨g, 0, none⟩ : Addr).add j) = some u) := fun j u hu => by rw [addr_add, Nat.zero_add]; exact hcell j u hu
  have HO : Hid (∀ u ∈ (sev s.size).map byteV, u.oneCell' = true) := by intro u hu; simp at hu; obtain ⟨_, _, rfl⟩ := hu; rfl
  have HL2 : Hid (((sev s.size).map byteV).length = (sev s.size).length * 1) := by show _ = _; simp
  have HW1 := Lib.hid (owns_below HW.out hb)
  have HG1 := Lib.hid (GrewB.of_below hb hbase)
  have hz1' : base ≤ w1.heap.size := Nat.le_trans hbase hb.size
  clear how hcell hb
  go_wp2_with (at_builtin; go_must (refine wpList_append_own _ rfl (.tmp 5) (.tmp 8) 38 rfl base 5 i0 (.int .u8 0) 1 1 Tryd.underlying38 hi hz0 hz1 hz2 rfl (by decide) _ l.length (l.map byteV) rfl HW1.out ⟨g, 0, none⟩ (sev s.size).length cap ((sev s.size).map byteV) rfl HL2.out HN.out HO.out (by unfold maxLen; omega) (by omega) hz1' ?_))
  intro v2 w2 how2 hgr2 _
  obtain ⟨va2, vc2, rfl⟩ := own_slice how2
  have HW2 : Hid (w2.ownsRow base 5 1 (.slice va2 (l.length + (sev s.size).length) vc2) (l.length + (sev s.size).length) ((l ++ sev s.size).map byteV)) := by rw [List.map_append]; exact how2
  have HG2 := Lib.hid (HG1.out.trans (GrewB.of_grown HW1.out hgr2 hz1'))
  have hz2' : base ≤ w2.heap.size := Nat.le_trans hz1' hgr2.size
  clear how2 hgr2
  go_wp2_with (at_builtin; go_must (refine Lib.wpList_append_own_string _ rfl (.tmp 10) (.tmp 11) 38 9 rfl base 5 i0 Tryd.underlying38 Tryd.underlying9 hi hz0 hz1 hz2 _ (l.length + (sev s.size).length) ((l ++ sev s.size).map byteV) rfl HW2.out s rfl (by unfold maxLen; omega) (by omega) hz2' ?_))
  intro v3 w3 how3 hgr3 _
  have HW3 : Hid (w3.ownsRow base 5 1 v3 (l ++ textOf (bl s)).length ((l ++ textOf (bl s)).map byteV)) := by
    show World.ownsRow _ _ _ _ _ _ _
    rw [← HE.out, ← (text_eqs l s).1, ← (text_eqs l s).2]; exact how3
  have HG3 := Lib.hid (HG2.out.trans (GrewB.of_grown HW2.out hgr3 hz2'))
  clear how3 hgr3
  go_wp2_with fail
  go_ret
  exact ⟨_, rfl, HW3.out, HG3.out⟩
theorem adl_snoc (l : Str) (k : Nat) (hk : k < l.length) : ad (l.take (k + 1)) = adStep (ad (l.take k)) l[k] := by
  rw [List.take_succ_eq_append_getElem hk, ad_snoc]
theorem or16 (x y : Nat) (hx : x < 65536) (hy : y < 65536) : bits .or .i64 ((y : Int) * 65536) (x : Int) = (y : Int) * 65536 + x := by
  have h := (bits_nat .i64 63 (by decide) (fun n h0 h1 => IntWalk.i64_in _ ⟨by omega, by omega⟩) (2 ^ 16 * y) x (by omega) (by omega)).2
  rw [← Nat.two_pow_add_eq_or_of_lt (show x < 2 ^ 16 by omega)] at h
  have e : ((2 ^ 16 * y : Nat) : Int) = (y : Int) * 65536 := by omega
  rw [e] at h
  rw [h]; omega
set_option maxRecDepth 100000 in
set_option maxHeartbeats 1000000 in
theorem snap_sum (l : Str) (a : Option Addr) (c : Nat) (w : World) (h : BytesAt w a l) (hl : l.length ≤ 140737488355328) :
    Calls Tryd.prog 41 #[.slice a l.length c] w fun e w' => e = .returned (.int .i64 (((ad l).2 : Int) * 65536 + ((ad l).1 : Nat))) ∧ w = w' := by
  have HB := Lib.hid h
  clear h
  go_enter Tryd.func41, Tryd.ntmps41
  go_wp2_with fail
  go_loop [3, 4, 9] (fun x y i => ∃ k xx yy : Nat, k ≤ l.length ∧ i = .int .i64 k ∧ x = .int .i64 xx ∧ y = .int .i64 yy ∧ Hid (ad (l.take k) = (xx, yy)) ∧ xx < 65521 ∧ yy < 65521) (fun _ _ i => l.length - (intOf i).toNat)
  case atStart => exact ⟨0, 1, 0, Nat.zero_le _, rfl, rfl, rfl, rfl, by omega, by omega⟩
  case round =>
    obtain ⟨k, xx, yy, hk, rfl, rfl, rfl, HA, hx, hy⟩ := hrel
    by_cases hlt : k < l.length
    · obtain ⟨b, o, rfl, hc⟩ := HB.out.pos (by omega)
      have hc0 := hc k hlt
      have HS := Lib.hid (adl_snoc l k hlt)
      obtain ⟨cc, hcc⟩ : ∃ cc : Nat, cc = l[k].toNat := ⟨_, rfl⟩
      rw [← hcc] at hc0
      have hcb : cc < 256 := by rw [hcc]; exact l[k].toNat_lt
      have HA2 : Hid (ad (l.take (k + 1)) = ((xx + cc) % 65521, (yy + (xx + cc) % 65521) % 65521)) := by show _ = _; rw [HS.out, HA.out, hcc]; rfl
      have hwc : wrap64 (cc : Int) = (cc : Int) := IntWalk.wrap64_in _ ⟨by omega, by omega⟩
      obtain ⟨x2, hx2⟩ : ∃ x2, x2 = (xx + cc) % 65521 := ⟨_, rfl⟩
      obtain ⟨y2, hy2⟩ : ∃ y2, y2 = (yy + x2) % 65521 := ⟨_, rfl⟩
      rw [← hx2, ← hy2] at HA2
      have q1 : ((xx : Int) + (cc : Int)) % 65521 = (x2 : Int) := by omega
      have q2 : ((yy : Int) + (x2 : Int)) % 65521 = (y2 : Int) := by omega
      have q3 : x2 < 65521 := by omega
      have q4 : y2 < 65521 := by omega
      clear hc hcc hx2 hy2
      go_wp2_with fail
      go_round
      case rel => exact ⟨k + 1, x2, y2, by omega, by go_num, by rw [q1], by rw [q2], HA2, q3, q4⟩
      case measure => simp [intOf]; omega
    · have HA2 : Hid (ad l = (xx, yy)) := by show _ = _; rw [← HA.out, List.take_of_length_le (by omega)]
      have hor := or16 xx yy (by omega) (by omega)
      go_wp2_with fail
      go_ret
      exact ⟨by rw [HA2.out]; rfl, rfl⟩
set_option maxRecDepth 100000 in
set_option maxHeartbeats 1000000 in
theorem ref_SealOf (l : Str) (a : Option Addr) (c : Nat) (w : World) (h : BytesAt w a l) (hl : l.length ≤ 140737488355328) :
    Calls Tryd.prog 44 #[.slice a l.length c] w (RowEnd (sealOf l) w) := by
  have HB := Lib.hid h
  clear h
  go_enter Tryd.func44, Tryd.ntmps44
  go_wp2_with fail
  go_loop [3, 4, 5] (fun x y i => ∃ k xx yy : Nat, k ≤ l.length ∧ i = .int .i64 k ∧ x = .int .i64 xx ∧ y = .int .i64 yy ∧ Hid (ad (l.take k) = (xx, yy)) ∧ xx < 65521 ∧ yy < 65521) (fun _ _ i => l.length - (intOf i).toNat)
  case atStart => exact ⟨0, 1, 0, Nat.zero_le _, rfl, rfl, rfl, rfl, by omega, by omega⟩
  case round =>
    obtain ⟨k, xx, yy, hk, rfl, rfl, rfl, HA, hx, hy⟩ := hrel
    by_cases hlt : k < l.length
    · obtain ⟨b, o, rfl, hc⟩ := HB.out.pos (by omega)
      have hc0 := hc k hlt
      have HS := Lib.hid (adl_snoc l k hlt)
      obtain ⟨cc, hcc⟩ : ∃ cc : Nat, cc = l[k].toNat := ⟨_, rfl⟩
      rw [← hcc] at hc0
      have hcb : cc < 256 := by rw [hcc]; exact l[k].toNat_lt
      have HA2 : Hid (ad (l.take (k + 1)) = ((xx + cc) % 65521, (yy + (xx + cc) % 65521) % 65521)) := by show _ = _; rw [HS.out, HA.out, hcc]; rfl
      have hwc : wrap64 (cc : Int) = (cc : Int) := IntWalk.wrap64_in _ ⟨by omega, by omega⟩
      obtain ⟨x2, hx2⟩ : ∃ x2, x2 = (xx + cc) % 65521 := ⟨_, rfl⟩
      obtain ⟨y2, hy2⟩ : ∃ y2, y2 = (yy + x2) % 65521 := ⟨_, rfl⟩
      rw [← hx2, ← hy2] at HA2
      have q1 : ((xx : Int) + (cc : Int)) % 65521 = (x2 : Int) := by omega
      have q2 : ((x2 : Int) + (yy : Int)) % 65521 = (y2 : Int) := by omega
      have q3 : x2 < 65521 := by omega
      have q4 : y2 < 65521 := by omega
      clear hc hcc hx2 hy2
      go_wp2_with fail
      go_round
      case rel => exact ⟨k + 1, x2, y2, by omega, by go_num, by rw [q1], by rw [q2], HA2, q3, q4⟩
      case measure => simp [intOf]; omega
    · have HA2 : Hid (ad l = (xx, yy)) := by show _ = _; rw [← HA.out, List.take_of_length_le (by omega)]
      obtain ⟨y1, hy1⟩ : ∃ n, n = yy / 256 := ⟨_, rfl⟩
      obtain ⟨y0, hy0⟩ : ∃ n, n = yy % 256 := ⟨_, rfl⟩
      obtain ⟨x1, hx1⟩ : ∃ n, n = xx / 256 := ⟨_, rfl⟩
      obtain ⟨x0, hx0⟩ : ∃ n, n = xx % 256 := ⟨_, rfl⟩
      have HSL : Hid (sealOf l = [UInt8.ofNat y1, UInt8.ofNat y0, UInt8.ofNat x1, UInt8.ofNat x0]) := by show _ = _; unfold sealOf; rw [HA2.out, hy1, hy0, hx1, hx0]
      have r1 : (yy : Int) / 256 = (y1 : Int) := by omega
      have r2 : (yy : Int) % 256 = (y0 : Int) := by omega
      have r3 : (xx : Int) / 256 = (x1 : Int) := by omega
      have r4 : (xx : Int) % 256 = (x0 : Int) := by omega
      have b1 : y1 < 256 := by omega
      have b2 : y0 < 256 := by omega
      have b3 : x1 < 256 := by omega
      have b4 : x0 < 256 := by omega
      clear hy1 hy0 hx1 hx0
      go_wp2_with fail
      go_ret
      refine ⟨_, rfl, ?_, by go_grown⟩
      have hcl : (#[Value.int .u8 (y1 : Int), .int .u8 (y0 : Int), .int .u8 (x1 : Int), .int .u8 (x0 : Int)]).toList = (sealOf l).map byteV := by
        rw [HSL.out]; simp only [List.map_cons, List.map_nil, ← byte_cell b1, ← byte_cell b2, ← byte_cell b3, ← byte_cell b4]
      have := ownsRow_lit w w.heap.size #[Value.int .u8 (y1 : Int), .int .u8 (y0 : Int), .int .u8 (x1 : Int), .int .u8 (x0 : Int)] 5 w.heap.size 4 1 (Nat.le_refl _) rfl (by decide) rfl
      rw [hcl] at this
      rw [HSL.out] at this ⊢
      exact this
end Go.Proofs.YtbipegbgfdpaeaaDoor.D
