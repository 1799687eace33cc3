/-
  Contract: ref.valuesIn finds the values of a page. Condition: the page has at most 256 bytes.
-/
import Derived.Test.YtjhfomihlobjgaaCBytesOf
import Derived.Test.YtjhfomihlobjgaaCRecord
import Derived.Test.YtjhfomihlobjgaaCOwn
import Derived.Deep.LoopGhost
import Derived.Deep.DeepCutAuto
namespace Go.Proofs.Ytjhfomihlobjgaa.D
open Go.RowKit

theorem infoStr : (Try.prog.info? 9).map (fun i => (i.zero, i.size, i.bytes)) = some (some (.string ByteArray.empty), 1, 16) := by kernel_rfl
def strV (l : Str) : Value := .string ⟨l.toArray⟩
def valCells (l : List (Nat × Str)) : List Value := l.map fun r => strV r.2
def atCells (l : List (Nat × Str)) : List Value := l.map fun r => .int .i64 r.1
/-- two rows of the call's own -/
def TwoRows (B : Nat) (w : World) (o a : Value) (l : List (Nat × Str)) : Prop :=
  w.ownsRow B 9 1 o l.length (valCells l) ∧ w.ownsRow B 3 1 a l.length (atCells l)
def ValsEnd (b : Str) (w : World) (e : Ending) (w' : World) : Prop :=
  ∃ o a, e = .returned (.tuple #[o, a, .bool (allRec b 0)]) ∧ (allRec b 0 = true → TwoRows w.heap.size w' o a (recs b 0)) ∧ Below w.heap.size w w'

theorem vals_no {b : Str} {w w' : World} (h : allRec b 0 = false) (hb : Below w.heap.size w w') : ValsEnd b w (.returned (.tuple #[.slice none 0 0, .slice none 0 0, .bool false])) w' :=
  ⟨_, _, by rw [h], (fun hh => absurd (h.symm.trans hh) (by decide)), hb⟩
theorem vals_yes {b : Str} {l : List (Nat × Str)} {w w' : World} {o a : Value} (h : allRec b 0 = true) (hl : recs b 0 = l) (ht : TwoRows w.heap.size w' o a l) (hb : Below w.heap.size w w') :
    ValsEnd b w (.returned (.tuple #[o, a, .bool true])) w' :=
  ⟨o, a, by rw [h], (fun _ => by rw [hl]; exact ht), hb⟩
theorem vals_more {B : Nat} {w : World} {o a : Value} {l : List (Nat × Str)} {k : Nat} {v : Str} (h : w.ownsRow B 9 1 o (l.length + 1) (valCells l ++ [strV v])) (h' : w.ownsRow B 3 1 a (l.length + 1) (atCells l ++ [.int .i64 k])) :
    Hid (TwoRows B w o a (l ++ [(k, v)])) := by
  show TwoRows B w o a (l ++ [(k, v)])
  unfold TwoRows valCells atCells
  rw [List.length_append, List.map_append, List.map_append]
  exact ⟨h, h'⟩
theorem recs_more {b : Str} {k n : Nat} {l : List (Nat × Str)} {v : Str} (hk : k < b.length) (hn : Hid (n = lenAt b k)) (hv : Hid (v = valAt b k)) (h : Hid (recs b 0 = l ++ recs b k)) : Hid (recs b 0 = (l ++ [(k, v)]) ++ recs b (k + 3 + n)) := by
  show recs b 0 = (l ++ [(k, v)]) ++ recs b (k + 3 + n)
  rw [h.out, recs_step hk, hn.out, hv.out, List.append_assoc]; rfl
theorem all_more {b : Str} {k n : Nat} (hk : k < b.length) (hn : Hid (n = lenAt b k)) (hr : Hid (recB b k = true)) (h : Hid (allRec b 0 = allRec b k)) : Hid (allRec b 0 = allRec b (k + 3 + n)) := by
  show allRec b 0 = allRec b (k + 3 + n)
  rw [h.out, allRec_step hk, hr.out, hn.out]; rfl
/-- rows of two types are apart -/
theorem own_types {w : World} {base base' : Nat} {e e' : TypeId} {size size' : Nat} {v v' : Value} {n n' : Nat} {xs xs' : List Value} (h : w.ownsRow base e size v n xs)
    (h' : w.ownsRow base' e' size' v' n' xs') (he : e ≠ e') : v.ownBlock = none ∨ v.ownBlock ≠ v'.ownBlock := by
  obtain ⟨_, ⟨rfl, _⟩ | ⟨a, cap, cur, rfl, _, hh, _⟩⟩ := h
  · exact .inl rfl
  obtain ⟨_, ⟨rfl, _⟩ | ⟨a', cap', cur', rfl, _, hh', _⟩⟩ := h'
  · right; simp [Value.ownBlock]
  right
  intro hg
  simp only [Value.ownBlock, Option.some.injEq] at hg
  subst hg
  rw [hh] at hh'
  cases hh'
  exact he rfl
theorem own_bytes {w : World} {base : Nat} {va : Option Addr} {n vc m : Nat} {l : Str} (h : w.ownsRow base 5 1 (.slice va n vc) m (l.map byteV)) : BytesAt w va l := by
  rcases Nat.eq_zero_or_pos m with h0 | h0
  · left
    have := h.1
    rw [h0] at this
    exact List.eq_nil_of_length_eq_zero (by simpa using this)
  · obtain ⟨g, cap, hv, _, _, _, _, hcell⟩ := own_shape h h0
    cases hv
    exact .inr ⟨g, 0, rfl, fun i v hv => by rw [Nat.zero_add]; exact hcell i v hv⟩

theorem recordOf_length {v : Str} {n : Nat} (h : Hid (v.length = n)) : (recordOf v).length = 3 + n := by
  have : v.length = n := h.out
  simp [recordOf, this]; omega
def BytesEndL (v : Str) (n : Nat) (w : World) (e : Ending) (w' : World) : Prop :=
  ∃ xa xc, e = .returned (.slice xa (3 + n) xc) ∧ BytesAt w' xa (recordOf v) ∧ Below w.heap.size w w'
theorem bytesOf_list (v : Str) (n : Nat) (hv : Hid (v.length = n)) (w : World) (hn : n ≤ 200) : Calls Try.prog 51 #[.string ⟨v.toArray⟩] w (BytesEndL v n w) := by
  have h : v.length = n := hv.out
  have hs : (⟨v.toArray⟩ : ByteArray).size = n := by rw [← h]; simp [ByteArray.size]
  refine (ref_bytesOf ⟨v.toArray⟩ w (by omega)).mono ?_
  rintro e w' ⟨x, rfl, how, hb⟩
  rw [hs, bl_mk] at how
  obtain ⟨xa, xc, rfl⟩ := own_slice how
  exact ⟨xa, xc, rfl, own_bytes how, hb⟩

set_option maxRecDepth 100000 in
set_option maxHeartbeats 1000000 in
theorem ref_valuesIn (b : Str) (a : Option Addr) (c : Nat) (w : World) (h : BytesAt w a b) (hl : b.length ≤ 256) (hc : b.length ≤ c) (hcc : c ≤ 9223372036854775807) :
    Calls Try.prog 42 #[.slice a b.length c] w (ValsEnd b w) := by
  obtain ⟨i0, hi, hz0, hz1, hz2⟩ := info_parts infoStr
  obtain ⟨j0, hj, hw0, hw1, hw2⟩ := info_parts infoInt
  have H := Lib.hid h
  clear h
  go_enter Try.func42, Try.ntmps42
  go_wp2_with fail
  go_loopg [5, 6, 7] b.length (fun g o q i wr => ∃ k : Nat, ∃ l : List (Nat × Str), g + k = b.length ∧ i = .int .i64 k ∧ Hid (TwoRows w.heap.size wr o q l) ∧ Below w.heap.size w wr ∧ l.length ≤ k ∧ Hid (recs b 0 = l ++ recs b k) ∧ Hid (allRec b 0 = allRec b k))
  case atStart => exact ⟨0, [], rfl, rfl, ⟨World.ownsRow_nil _ _ _ _, World.ownsRow_nil _ _ _ _⟩, Below.refl _ _, Nat.zero_le _, rfl, rfl⟩
  case round =>
    obtain ⟨k, l, hk, rfl, hrow, hbl, hlk, hrecs, hall⟩ := hrel
    by_cases hlt : k < b.length
    · obtain ⟨ab, ao, rfl, hcell⟩ := H.out.pos (by omega)
      have c0 := Below.keeps hbl _ _ (hcell k (by omega))
      have hn : b[k].toNat = lenAt b k := by simp [lenAt, List.getD_eq_getElem?_getD, hlt]
      have hL : lenAt b k < 256 := by rw [← hn]; exact b[k].toNat_lt
      rw [hn] at c0
      clear hcell hn
      obtain ⟨n, hnn⟩ : ∃ n, n = lenAt b k := ⟨_, rfl⟩
      have HNN := Lib.hid hnn
      rw [← hnn] at c0 hL
      clear hnn
      have wn : wrap64 (n : Int) = n := IntWalk.wrap64_in _ ⟨by omega, by omega⟩
      by_cases h5 : n ≤ 200
      · by_cases h4 : k + 3 + n ≤ b.length
        · have hv : BytesAt wr (some ⟨ab, ao + (k + 3), none⟩) (valAt b k) := ((H.out.keep (Below.keeps hbl)).drop (k + 3)).take _
          have hraw : BytesAt wr (some ⟨ab, ao + k, none⟩) (rawAt b k) := ((H.out.keep (Below.keeps hbl)).drop k).take _
          have hvl := valAt_length (b := b) (k := k) (by rw [← HNN.out]; omega)
          have hrl : (rawAt b k).length = 3 + lenAt b k := by rw [rawAt_eq (by rw [← HNN.out]; omega)]; simp [hvl]; omega
          rw [← HNN.out] at hvl hrl
          have hrec := Lib.hid (rec_raw (b := b) (k := k) (by rw [← HNN.out]; omega) (by rw [← HNN.out]; omega))
          obtain ⟨v, hvv⟩ : ∃ v, v = valAt b k := ⟨_, rfl⟩
          obtain ⟨x, hxx⟩ : ∃ x, x = rawAt b k := ⟨_, rfl⟩
          rw [← hvv] at hv hvl hrec
          rw [← hxx] at hraw hrl hrec
          have HVV := Lib.hid hvv
          clear hvv hxx hL
          have hva : BytesAt wr (if c = k + 3 then some ⟨ab, ao, none⟩ else some ⟨ab, ao + (k + 3), none⟩) v := by
            by_cases h : c = k + 3
            · rw [if_pos h]
              have : v = [] := List.eq_nil_of_length_eq_zero (by omega)
              subst this; exact CellsAt.nil _ _
            · rw [if_neg h]; exact hv
          have s1 := fun c' => run_str hva n c' hvl.symm wr (Keeps.refl wr)
          have hck : ¬ c = k := by omega
          have s2 := fun c' => run_str hraw (3 + n) c' hrl.symm wr.drew (keeps_drewN (Keeps.refl wr) 1)
          have HRAW := Lib.hid hraw
          have HVL := Lib.hid hvl
          have HRL := Lib.hid hrl
          clear hraw hvl hrl hva hv
          have hn3 : n ≤ 200 := h5
          go_upto_region 8 with (fail)
          go_cut [9] (fun s wx => s = .string ⟨v.toArray⟩ ∧ wr = wx)
          case first =>
            go_wp2_with fail
            all_goals (subst_vars; go_meet; exact ⟨rfl, rfl⟩)
          case rest =>
            obtain ⟨rfl, rfl⟩ := hcut
            go_upto_region 9 with (fail)
            go_cut [50] (fun s wx => ∃ tb : Bool, s = .bool tb ∧ Hid (tb = (!x == recordOf v)) ∧ Below wr.heap.size wr wx)
            case first =>
              have g1 : IntKind.i64.wrap ((k : Int) + 3) = (k : Int) + 3 := IntWalk.i64_in _ ⟨by omega, by omega⟩
              have g2 : IntKind.i64.wrap ((k : Int) + 3 + (n : Int)) = (k : Int) + 3 + (n : Int) := IntWalk.i64_in _ ⟨by omega, by omega⟩
              have g3 : (0 : Int) ≤ (k : Int) + 3 + (n : Int) := by omega
              have g4 : ((k : Int) + 3 + (n : Int)).toNat = k + (3 + n) := by omega
              have g5 : k + (3 + n) - k = 3 + n := by omega
              have g6 : (k : Int) ≤ (k : Int) + 3 + (n : Int) := by omega
              have g7 : (k : Int) + 3 + (n : Int) ≤ (c : Int) := by omega
              go_region_law (go_simp; go_at_call 51; go_must (refine (bytesOf_list v n HVL _ hn3).mono ?_); rintro e w1 ⟨xa, xc, rfl, hbx, hb1⟩; have s3 := run_str hbx (3 + n) xc (recordOf_length HVL).symm w1 (Keeps.refl w1); have s4 := fun c' => run_str HRAW.out (3 + n) c' HRL.out.symm w1 (Below.keeps (Below.trans (by go_grown) hb1)))
              all_goals (go_wp2_with fail; go_meet; exact ⟨_, rfl, rfl, Below.trans (by go_grown) hb1⟩)
            case rest =>
              obtain ⟨tb, rfl, htb, hbc⟩ := hcut
              clear s1 s2 HRAW HRL wn
              cases tb
              · have HR : Hid (recB b k = true) := by
                  show recB b k = true
                  have h := htb.out
                  simp only [Bool.false_eq, Bool.not_eq_false', beq_iff_eq] at h
                  rw [hrec.out, decide_eq_true h]
                have hA := Lib.hid (owns_below hrow.out.1 hbc)
                have hB := Lib.hid (owns_below hrow.out.2 hbc)
                have hbl2 := hbl.trans (hbc.mono hbl.size)
                clear htb hrec
                go_wp2_with (at_builtin; go_must (refine wpList_append_own _ rfl (.tmp 51) (.tmp 53) 49 rfl w.heap.size 9 i0 (.string ByteArray.empty) 1 16 Try.underlying49 hi hz0 hz1 hz2 rfl (by decide) _ l.length (valCells l) rfl (hA.out.alloc _) ⟨wc.heap.size, 0, none⟩ 1 1 [strV v] rfl rfl (news_lit _ _ _ _ _ rfl rfl) (ones rfl) (by unfold maxLen; omega) (by omega) (by have := hbl2.size; go_size) ?_))
                intro o1 w1 how hgr _
                have hA1 := Lib.hid how
                have hB1 := Lib.hid ((hB.out.alloc (.cells #[.string ⟨v.toArray⟩] 9)).kept hgr (own_types hB.out hA.out (by decide)))
                have hbl3 : Below w.heap.size w w1 := Below.grown (hbl2.alloc hbl2.size _) hgr (hbl2.alloc hbl2.size _).size (by intro g hg; exact (hA.out.lt g hg).1)
                clear how hgr hA hB hbl hbl2 hbc hrow
                go_wp2_with (at_builtin; go_must (refine wpList_append_own _ rfl (.tmp 55) (.tmp 57) 24 rfl w.heap.size 3 j0 (.int .i64 0) 1 8 Try.underlying24 hj hw0 hw1 hw2 rfl (by decide) _ l.length (atCells l) rfl (hB1.out.alloc _) ⟨w1.heap.size, 0, none⟩ 1 1 [.int .i64 k] rfl rfl (news_lit _ _ _ _ _ rfl rfl) (ones rfl) (by unfold maxLen; omega) (by omega) (by have := hbl3.size; go_size) ?_))
                intro a1 w2 how hgr _
                have hB2 := Lib.hid how
                have hA2 := Lib.hid ((hA1.out.alloc (.cells #[.int .i64 k] 3)).kept hgr (own_types hA1.out hB1.out (by decide)))
                have hbl4 : Below w.heap.size w w2 := Below.grown (hbl3.alloc hbl3.size _) hgr (hbl3.alloc hbl3.size _).size (by intro g hg; exact (hB1.out.lt g hg).1)
                clear how hgr hA1 hB1 hbl3
                go_wp2_with fail
                go_roundg (gk - 3 - n)
                case measure => omega
                case rel => exact ⟨k + 3 + n, l ++ [(k, v)], by omega, by go_num, vals_more hA2.out hB2.out, hbl4, by simp; omega, recs_more hlt HNN HVV hrecs, all_more hlt HNN HR hall⟩
              · have HR : Hid (recB b k = false) := by
                  show recB b k = false
                  have h := htb.out
                  simp only [Bool.true_eq, Bool.not_eq_true', beq_eq_false_iff_ne, ne_eq] at h
                  rw [hrec.out, decide_eq_false h]
                have HA : Hid (allRec b 0 = false) := by show allRec b 0 = false; rw [hall.out, allRec_step hlt, HR.out]; rfl
                clear htb hrec
                go_wp2_with fail
                go_ret3
                exact vals_no HA.out (hbl.trans (hbc.mono hbl.size))
        ·
          have HR : Hid (recB b k = false) := by show recB b k = false; exact rec_short (by rw [← HNN.out]; exact Nat.lt_of_not_le h4)
          have HA : Hid (allRec b 0 = false) := by show allRec b 0 = false; rw [hall.out, allRec_step hlt, HR.out]; rfl
          have h4' : b.length < k + 3 + n := Nat.lt_of_not_le h4
          clear h4 hL
          go_wp2_with fail
          go_ret3
          exact vals_no HA.out hbl
      ·
        have HR : Hid (recB b k = false) := by show recB b k = false; exact rec_long (by rw [← HNN.out]; exact Nat.lt_of_not_le h5)
        have HA : Hid (allRec b 0 = false) := by show allRec b 0 = false; rw [hall.out, allRec_step hlt, HR.out]; rfl
        have h5' : 200 < n := Nat.lt_of_not_le h5
        clear h5 hL
        go_wp2_with fail
        go_ret3
        exact vals_no HA.out hbl
    ·
      have hb0 : Hid (allRec b 0 = true) := by show allRec b 0 = true; rw [hall.out, allRec_end (by omega)]
      have hl0 : Hid (recs b 0 = l) := by show recs b 0 = l; rw [hrecs.out, recs_end (by omega), List.append_nil]
      clear hrecs hall
      go_wp2_with fail
      go_ret3
      exact vals_yes hb0.out hl0.out hrow.out hbl
end Go.Proofs.Ytjhfomihlobjgaa.D
