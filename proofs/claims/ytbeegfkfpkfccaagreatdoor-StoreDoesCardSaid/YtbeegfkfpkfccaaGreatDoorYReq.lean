/-
 Contracts: wire.Key and ref.KeyMay tell whether a text may be a key. Condition: a string's length is a Go int.
-/
import Derived.Test.YtbeegfkfpkfccaaGreatDoorYBase
import Derived.Test.YtbeegfkfpkfccaaGreatDoorYPlain
import Derived.Deep.LoopGhost
namespace Go.Proofs.YtbeegfkfpkfccaaGreatDoor.D
open Go.RowKit
theorem ref_In (n lo hi : Int) (w : World) :
  Calls Tryz.prog 58 #[.int .i64 n, .int .i64 lo, .int .i64 hi] w fun e w' => e = .returned (.bool (decide (lo ≤ n ∧ n ≤ hi))) ∧ w = w' := by
 by_cases h1 : lo ≤ n
 ·by_cases h2 : n ≤ hi
  ·have e2 : decide (lo ≤ n ∧ n ≤ hi) = true := by simp; omega
   rw [e2]
   go_enter Tryz.func58, Tryz.ntmps58
   go_wp2
   go_ret;exact ⟨rfl, rfl⟩
  ·have e2 : decide (lo ≤ n ∧ n ≤ hi) = false := by simp; omega
   have e3 : decide (n ≤ hi) = false := by simp; omega
   rw [e2]
   go_enter Tryz.func58, Tryz.ntmps58
   go_wp2
   go_ret;exact ⟨rfl, rfl⟩
 ·have e2 : decide (lo ≤ n ∧ n ≤ hi) = false := by simp; omega
  have e3 : decide (lo ≤ n) = false := by simp; omega
  rw [e2]
  go_enter Tryz.func58, Tryz.ntmps58
  go_wp2
  go_ret;exact ⟨rfl, rfl⟩
theorem key_lit (c : UInt8) (w : World) :
  Calls Tryz.prog 85 #[.int .u8 c.toNat] w fun e w' => e = .returned (.bool (badC c)) ∧ w = w' := by
 by_cases h1 : (c.toNat : Int) ≤ 32
 ·have e1 : decide ((c.toNat : Int) ≤ 32) = true := by simpa using h1
  have e2 : badC c = true := by simp [badC]; omega
  have E2 := hid e2;clear e2 h1
  go_enter Tryz.func85, Tryz.ntmps85
  go_wp2
  go_ret;exact ⟨ret_bool E2.out.symm, rfl⟩
 ·have e1 : decide ((c.toNat : Int) ≤ 32) = false := by simpa using h1
  have e2 : badC c = decide (126 < (c.toNat : Int)) := by
   unfold badC; rw [Bool.eq_iff_iff]; simp; omega
  have E2 := hid e2;clear e2 h1
  go_enter Tryz.func85, Tryz.ntmps85
  go_wp2
  go_ret;exact ⟨ret_bool E2.out.symm, rfl⟩
theorem index_key (l : Str) (a : Option Addr) (c : Nat) (w : World) (h : BytesAt w a l) (hl : l.length ≤ 9223372036854775807) :
  Calls Tryz.prog 110 #[.slice a l.length c, .func (.func 85) #[] #[]] w fun e w' => e = .returned (.int .i64 (firstBad l 0)) ∧ w = w' := by
 go_enter Tryz.func110, Tryz.ntmps110
 go_wp2
 go_loop [8] (fun i => ∃ k : Nat, k ≤ l.length ∧ i = .int .i64 k ∧ (l.take k).all goodC = true) (fun i => l.length - (intOf i).toNat)
 case atStart => exact ⟨0, Nat.zero_le _, rfl, rfl⟩
 case round =>
  obtain ⟨k, hk, rfl, hg0⟩ := hrel;have hg := hid hg0;clear hg0
  by_cases hlt : k < l.length
  ·obtain ⟨b, o, rfl, hc0⟩ := h.pos (by omega)
   obtain ⟨x, hx⟩ : ∃ x, x = l[k] := ⟨_, rfl⟩;have hc := hc0 k hlt;have hts := hid (all_take_succ l goodC k hlt);have hbg := hid (badC_eq l[k]);have hC := hid (firstBad_hit l 0 k hlt hg.out);rw [← hx] at hc hts hbg hC;clear hc0 h hx
   go_wp2_with (go_at_call 85; refine (key_lit _ _).mono ?_; rintro e w' ⟨rfl, rfl⟩)
   ·have hbad : badC x = true := by assumption
    go_ret;exact ⟨ret_int (by rw [hC.out hbad]; simp), rfl⟩
   ·have hbad : badC x = false := by assumption
    go_round
    case rel => exact ⟨k + 1, by omega, by go_num, by rw [hts.out, hg.out]; rw [hbg.out] at hbad; simpa using hbad⟩
    case measure => simp [intOf]; omega
  ·have hC := hid (firstBad_none l 0)
   have hkk : Hid (l.take k = l) := List.take_of_length_le (by omega)
   go_wp2
   go_ret;exact ⟨ret_int (by rw [hC.out (by have := hg.out; rw [hkk.out] at this; exact this)]), rfl⟩
theorem contains_key (l : Str) (a : Option Addr) (c : Nat) (w : World) (h : BytesAt w a l) (hl : l.length ≤ 9223372036854775807) :
  Calls Tryz.prog 84 #[.slice a l.length c, .func (.func 85) #[] #[]] w fun e w' => e = .returned (.bool (!l.all goodC)) ∧ w = w' := by
 have hn := hid (firstBad_neg l 0);have h' := hid h;clear h
 go_enter Tryz.func84, Tryz.ntmps84
 go_wp2_with fail
 refine (index_key l a c _ h'.out hl).mono ?_;rintro e w' ⟨rfl, rfl⟩
 go_wp2
 go_ret;exact ⟨ret_bool (by rw [Bool.eq_iff_iff]; simp [hn.out]), rfl⟩
def KeyEnd (s : ByteArray) (w : World) (e : Ending) (w' : World) : Prop := e = .returned (.bool (keyL (bl s))) ∧ Below w.heap.size w w'
theorem wire_Key (s : ByteArray) (w : World) (hs : s.size ≤ 9223372036854775807) :
  Calls Tryz.prog 52 #[.string s] w (KeyEnd s w) := by
 have hlen := hid (bl_length s)
 by_cases h0 : s.size = 0
 ·have e1 : s.toList.isEmpty = true := by rw [bl_toList, List.isEmpty_iff_length_eq_zero, bl_length]; exact h0
  have hK : Hid (keyL (bl s) = false) := by show keyL (bl s) = false; simp [keyL, hlen.out, h0]
  go_enter Tryz.func52, Tryz.ntmps52
  go_wp2
  go_ret;exact ⟨ret_bool hK.out.symm, Below.refl _ _⟩
 ·have e1 : s.toList.isEmpty = false := by rw [bl_toList, Bool.eq_false_iff]; intro hE; rw [List.isEmpty_iff_length_eq_zero, bl_length] at hE; exact h0 hE
  by_cases h1 : (20 : Int) < s.size
  ·have hK : Hid (keyL (bl s) = false) := by
    show keyL (bl s) = false;have : ¬ (bl s).length ≤ 20 := by rw [hlen.out]; omega
    simp only [keyL, this, and_false, decide_false, Bool.false_and]
   go_enter Tryz.func52, Tryz.ntmps52
   go_wp2
   go_ret;exact ⟨ret_bool hK.out.symm, Below.refl _ _⟩
  ·have hK : Hid (keyL (bl s) = (bl s).all goodC) := by
    show keyL (bl s) = (bl s).all goodC;have h3 : 1 ≤ (bl s).length ∧ (bl s).length ≤ 20 := by rw [hlen.out]; omega
    simp only [keyL, h3, and_self, decide_true, Bool.true_and]
   have e3 : decide ((20 : Int) < s.size) = false := by simpa using h1
   obtain ⟨c, w1, hr, hb, hbl, hc, hz⟩ := run_bytes w s;have Hb := hid hb;clear hb h1 h0
   go_enter Tryz.func52, Tryz.ntmps52
   go_wp2_with fail
   rw [← hlen.out];refine (contains_key (bl s) _ c _ Hb.out (by rw [hlen.out]; exact hs)).mono ?_;rintro e w' ⟨rfl, rfl⟩
   go_wp2
   go_ret;exact ⟨ret_bool (by rw [hK.out]), hbl⟩
theorem ref_KeyMay (s : ByteArray) (w : World) (hs : s.size ≤ 9223372036854775807) :
  Calls Tryz.prog 60 #[.string s] w fun e w' => e = .returned (.bool (keyL (bl s))) ∧ w = w' := by
 have hlen := hid (bl_length s)
 go_enter Tryz.func60, Tryz.ntmps60
 go_wp2_with fail
 go_loop [3] (fun i => ∃ k : Nat, k ≤ s.size ∧ i = .int .i64 k ∧ ((bl s).take k).all goodC = true) (fun i => s.size - (intOf i).toNat)
 case atStart => exact ⟨0, Nat.zero_le _, rfl, rfl⟩
 case round =>
  obtain ⟨k, hk, rfl, hg0⟩ := hrel;have hg := hid hg0;clear hg0
  by_cases hlt : k < s.size
  ·have hts := hid (all_take_succ (bl s) goodC k (by rw [hlen.out]; exact hlt))
   have hx : Hid ((bl s)[k]'(by rw [bl_length]; exact hlt) = s[k]) := bl_get s k hlt;have hgx : Hid (decide (33 ≤ (s[k].toNat : Int) ∧ (s[k].toNat : Int) ≤ 126) = goodC s[k]) := by show decide _ = goodC s[k]; unfold goodC; rw [Bool.eq_iff_iff]; simp; omega
   go_wp2_with (go_at_call 58; rw [wrap64_byte]; refine (ref_In _ _ _ _).mono ?_; rw [hgx.out]; rintro e w' ⟨rfl, rfl⟩)
   ·have hbad : goodC s[k] = false := by simpa using ‹(!goodC s[k]) = true›
    have hK : keyL (bl s) = false := by
     have : (bl s).all goodC = false := by
      rw [Bool.eq_false_iff]; intro hA;rw [List.all_eq_true] at hA;have := hA ((bl s)[k]'(by rw [bl_length]; exact hlt)) (List.getElem_mem _);rw [hx.out, hbad] at this
      cases this
     unfold keyL; rw [this, Bool.and_false]
    go_ret;exact ⟨ret_bool hK.symm, rfl⟩
   ·have hgood : goodC s[k] = true := by simpa using ‹(!goodC s[k]) = false›
    go_round
    case rel => exact ⟨k + 1, by omega, by go_num, by rw [hts.out, hg.out, hx.out, hgood]; rfl⟩
    case measure => simp [intOf]; omega
  ·have hall : Hid ((bl s).all goodC = true) := by
    have := hg.out;rw [List.take_of_length_le (by rw [bl_length]; omega)] at this;exact this
   go_wp2_with (go_at_call 58; refine (ref_In _ _ _ _).mono ?_; rintro e w' ⟨rfl, rfl⟩)
   go_ret;exact ⟨ret_bool (by unfold keyL; rw [hall.out, hlen.out, Bool.and_true]; rw [Bool.eq_iff_iff]; simp; omega), rfl⟩
open Go.ChangeShapes Go.WideShapes Go.RowKit Go.Deep Go.Joins
def hitCells (x : Hit) : List Value := [.string x.key, .int .i64 x.flags, .int .i64 x.cas, .string x.value]
def HitR (cs : List Value) (x : Hit) : Prop := cs = hitCells x ∧ x.key.size ≤ reachBytes ∧ x.value.size ≤ reachBytes ∧ HitB x
def replyCells (r : Reply) (a : Option Addr) (c : Nat) : Array Value := #[.int .i64 r.kind, .int .i64 r.n, .slice a r.hits.length c]
section
variable {H : Type} {enc : TypeId × Value → H} {w : World}
instance : Inhabited Hit := ⟨⟨ByteArray.empty, 0, 0, ByteArray.empty⟩⟩
end
open Go.ChangeShapes Go.WideShapes Go.RowKit Go.Deep Go.Joins
def strR (cs : List Value) (s : ByteArray) : Prop := cs = [.string s] ∧ s.size ≤ reachBytes
def ReqR (w : World) (cs : List Value) (r : Req) : Prop :=
 I64 r.kind ∧ I64 r.flags ∧ I64 r.exp ∧ I64 r.n ∧ r.key.size ≤ reachBytes ∧ r.value.size ≤ reachBytes ∧
 ∃ a c, cs = [.int .i64 r.kind, .string r.key, .slice a r.keys.length c, .int .i64 r.flags, .int .i64 r.exp, .int .i64 r.n, .string r.value, .bool r.quiet] ∧ r.keys.length ≤ c ∧ c * 16 ≤ reachBytes ∧ RowsAt w a 1 strR r.keys
section
variable {H : Type} {enc : TypeId × Value → H} {w : World}
theorem bytes_string : Tryz.prog.bytesOf 9 = 16 := by kernel_rfl
theorem cells_strings : Tryz.prog.cellsOf 29 = 1 := by kernel_rfl
instance : Inhabited ByteArray := ⟨ByteArray.empty⟩
theorem read_string {f : Nat} {cs : List Value} {y : DataW H × List MemPlace} (h : DataW.trod enc Tryz.prog w 0 (fun _ => true) true f 9 cs = some y) (hwt : Wt 9 y.1) : ∃ s, strR cs s := by
 obtain ⟨s0, e0, x0, _⟩ := DataW.trod_string Tryz.underlying9 h;exact ⟨s0, e0, by rw [x0] at hwt; simpa using hwt.string⟩
theorem read_req {f : Nat} {cs : List Value} {y : DataW H × List MemPlace} (h : DataW.trod enc Tryz.prog w 0 (fun _ => true) true f 31 cs = some y) (hwt : Wt 31 y.1) : ∃ r, ReqR w cs r := by
 obtain ⟨xs, n, _, hyx, hl, hx, hf⟩ := DataW.trod_struct Tryz.underlying31 h;subst hyx;obtain ⟨c0, c1, c2, c3, c4, c5, c6, c7, rfl⟩ := eight (hl.trans (by kernel_rfl));obtain ⟨y0, y1, y2, y3, y4, y5, y6, y7, rfl⟩ := eight hx;have h0 := hf 0 _ rfl;have h1 := hf 1 _ rfl;have h2 := hf 2 _ rfl;have h3 := hf 3 _ rfl;have h4 := hf 4 _ rfl;have h5 := hf 5 _ rfl;have h6 := hf 6 _ rfl;have h7 := hf 7 _ rfl
 simp [cells_string] at h1 h6
 simp [cells_int] at h0 h3 h4 h5
 simp [cells_strings] at h2
 simp [cells_bool] at h7
 obtain ⟨n0, e0, b0⟩ := read_i64 Tryz.underlying3 h0;obtain ⟨s1, e1, b1⟩ := read_string h1 (hwt.field Tryz.underlying31 1 rfl rfl);obtain ⟨a, len, c, l, hc, hll, hlc, hcm, hrow⟩ := read_slice (n := 1) strR Tryz.underlying29 (by kernel_rfl) (by omega) (fun f cs y hy hy2 => read_string hy hy2) h2 (hwt.field Tryz.underlying31 2 rfl rfl);rw [bytes_string] at hcm;obtain ⟨n3, e3, b3⟩ := read_i64 Tryz.underlying3 h3;obtain ⟨n4, e4, b4⟩ := read_i64 Tryz.underlying3 h4;obtain ⟨n5, e5, b5⟩ := read_i64 Tryz.underlying3 h5;obtain ⟨s6, e6, b6⟩ := read_string h6 (hwt.field Tryz.underlying31 6 rfl rfl);obtain ⟨t7, e7, _⟩ := DataW.trod_bool Tryz.underlying4 h7;subst hc hll
 cases e0; cases e1; cases e3; cases e4; cases e5; cases e6; cases e7
 exact ⟨⟨n0, s1, l, n3, n4, n5, s6, t7⟩, b0, b3, b4, b5, b1, b6, a, c, rfl, hlc, hcm, hrow⟩
end
theorem wire_stores (k : Int) (w : World) : Calls Tryz.prog 53 #[.int .i64 k] w fun e w' => e = .returned (.bool (decide (2 ≤ k ∧ k ≤ 7))) ∧ w = w' := by
 by_cases h1 : 2 ≤ k
 ·have e1 : decide (2 ≤ k ∧ k ≤ 7) = decide (k ≤ 7) := by simp [h1]
  rw [e1]
  go_enter Tryz.func53, Tryz.ntmps53
  go_wp2
  go_ret;exact ⟨rfl, rfl⟩
 ·have e2 : decide (2 ≤ k ∧ k ≤ 7) = false := by simp; omega
  have e3 : k < 2 := by omega
  rw [e2]
  go_enter Tryz.func53, Tryz.ntmps53
  go_wp2
  go_ret;exact ⟨rfl, rfl⟩
theorem brings_is (k : Int) (t : Bool) (ht : Hid (decide (2 ≤ k ∧ k ≤ 7) = t)) (w : World) : Calls Tryz.prog 64 #[.int .i64 k] w fun e w' => e = .returned (.bool t) ∧ w = w' := by
 go_enter Tryz.func64, Tryz.ntmps64
 go_wp2_with fail
 refine (ref_In _ _ _ _).mono ?_;rintro e w' ⟨rfl, rfl⟩;rw [ht.out]
 go_wp2_with fail
 go_ret;exact ⟨rfl, rfl⟩
theorem keyq_is (s : ByteArray) (t : Bool) (ht : Hid (keyOK s = t)) (w : World) (hs : s.size ≤ 9223372036854775807) : Calls Tryz.prog 52 #[.string s] w fun e w' => e = .returned (.bool t) ∧ Below w.heap.size w w' := by
 refine (wire_Key s w hs).mono ?_;rintro e w' ⟨rfl, hb⟩;exact ⟨by rw [← ht.out]; rfl, hb⟩
theorem keyMay_is (s : ByteArray) (t : Bool) (ht : Hid (keyOK s = t)) (w : World) (hs : s.size ≤ 9223372036854775807) : Calls Tryz.prog 60 #[.string s] w fun e w' => e = .returned (.bool t) ∧ w = w' := by
 refine (ref_KeyMay s w hs).mono ?_;rintro e w' ⟨rfl, rfl⟩;exact ⟨by rw [← ht.out]; rfl, rfl⟩
theorem check_lit (s : ByteArray) (w : World) (hs : s.size ≤ 9223372036854775807) : Calls Tryz.prog 51 #[.string s] w fun e w' => e = .returned (.bool (!keyOK s)) ∧ Below w.heap.size w w' := by
 go_enter Tryz.func51, Tryz.ntmps51
 go_wp2_with fail
 refine (wire_Key s _ hs).mono ?_;rintro e w' ⟨rfl, hb⟩
 go_wp2_with fail
 go_ret;exact ⟨rfl, hb⟩
def KeysEnd (l : List ByteArray) (w : World) (e : Ending) (w' : World) : Prop := ∃ i : Int, e = .returned (.int .i64 i) ∧ ((0 ≤ i ∧ l.all keyOK = false) ∨ (i = -1 ∧ l.all keyOK = true)) ∧ Below w.heap.size w w'
theorem all_snoc {l : List ByteArray} {k : Nat} (hk : k < l.length) (h : (l.take k).all keyOK = true) (hx : keyOK l[k] = true) : (l.take (k + 1)).all keyOK = true := by
 rw [List.take_succ_eq_append_getElem hk, List.all_append, h]; simp [hx]
theorem all_not {l : List ByteArray} {k : Nat} (hk : k < l.length) (hx : keyOK l[k] = false) : l.all keyOK = false := by
 rw [Bool.eq_false_iff]; intro h;have := List.all_eq_true.1 h _ (List.getElem_mem hk);rw [hx] at this; cases this
theorem index_keys (l : List ByteArray) (a : Option Addr) (c : Nat) (w : World) (h : RowsAt w a 1 strR l) (hl : l.length ≤ 9223372036854775807) :
  Calls Tryz.prog 83 #[.slice a l.length c, .func (.func 51) #[] #[]] w (KeysEnd l w) := by
 have H := hid h;clear h
 go_enter Tryz.func83, Tryz.ntmps83
 go_wp2_with fail
 go_loopw [8] (fun i wr => ∃ k : Nat, k ≤ l.length ∧ i = .int .i64 k ∧ Below w.heap.size w wr ∧ Hid ((l.take k).all keyOK = true)) (fun i _ => l.length - (intOf i).toNat)
 case atStart => exact ⟨0, Nat.zero_le _, rfl, Below.refl _ _, rfl⟩
 case round =>
  obtain ⟨k, hk, rfl, hbl, hg⟩ := hrel
  by_cases hlt : k < l.length
  ·obtain ⟨b, o, rfl, hc⟩ := H.out.pos (by omega)
   obtain ⟨cs, _, ⟨hcs, hsz⟩, h3⟩ := hc k hlt;subst hcs;have c0 := Below.keeps hbl _ _ (h3 0 _ rfl);rw [Nat.add_zero, Nat.mul_one] at c0;have hS := hid (all_snoc hlt hg.out);have hN := hid (all_not hlt);obtain ⟨s, hs⟩ : ∃ s, s = l[k] := ⟨_, rfl⟩;rw [← hs] at c0 hsz hS hN;have hs2 : s.size ≤ 9223372036854775807 := Nat.le_trans hsz (by decide);clear h3 hc hs hsz
   cases ht : keyOK s
   ·have HT := hid ht
    clear ht
    go_wp2_with fail
    refine (check_lit s _ hs2).mono ?_;rintro e w2 ⟨rfl, hb2⟩;rw [HT.out];have hb3 := hbl.trans (hb2.mono hbl.size);clear hb2
    go_wp2_with fail
    go_ret;exact ⟨_, rfl, .inl ⟨by omega, hN.out HT.out⟩, hb3⟩
   ·have HT := hid ht
    clear ht
    go_wp2_with fail
    refine (check_lit s _ hs2).mono ?_;rintro e w2 ⟨rfl, hb2⟩;rw [HT.out];have hb3 := hbl.trans (hb2.mono hbl.size);clear hb2 hbl
    go_wp2_with fail
    go_roundw
    case rel => exact ⟨k + 1, by omega, by go_num, hb3, hS.out HT.out⟩
    case measure => simp [intOf]; omega
  ·have hA : Hid (l.all keyOK = true) := by
    have := hg.out;rw [List.take_of_length_le (by omega)] at this;exact this
   go_wp2_with fail
   go_ret;exact ⟨_, rfl, .inr ⟨rfl, hA.out⟩, hbl⟩
theorem contains_keys (l : List ByteArray) (a : Option Addr) (c : Nat) (w : World) (h : RowsAt w a 1 strR l) (hl : l.length ≤ 9223372036854775807) :
  Calls Tryz.prog 50 #[.slice a l.length c, .func (.func 51) #[] #[]] w fun e w' => e = .returned (.bool (!l.all keyOK)) ∧ Below w.heap.size w w' := by
 have H := hid h;clear h
 go_enter Tryz.func50, Tryz.ntmps50
 go_wp2_with fail
 refine (index_keys l a c _ H.out hl).mono ?_;rintro e w1 ⟨i, rfl, hi, hb⟩
 rcases hi with ⟨hi, hA⟩ | ⟨rfl, hA⟩
 ·have HA := hid hA
  clear hA
  go_wp2_with fail
  go_ret;exact ⟨ret_bool (by rw [HA.out]; rfl), hb⟩
 ·have HA := hid hA
  clear hA
  go_wp2_with fail
  go_ret;exact ⟨ret_bool (by rw [HA.out]; rfl), hb⟩
end Go.Proofs.YtbeegfkfpkfccaaGreatDoor.D
