/-
 Contracts: store.counter, store.class, store.item: may an item be one of a store?
-/
import Derived.Test.YtbeegfkfpkfccaaGreatDoorYCls
import Derived.Test.YtbeegfkfpkfccaaGreatDoorYReq
import Derived.Test.YtbeegfkfpkfccaaGreatDoorYRd
import Derived.Test.YtbeegfkfpkfccaaGreatDoorYBase
namespace Go.Proofs.YtbeegfkfpkfccaaGreatDoor.D
open Go.RowKit
theorem counter_is (n : Int) (t : Bool) (ht : Hid (cnt n = t)) (w : World) : Calls Tryz.prog 37 #[.int .i64 n] w fun e w' => e = .returned (.bool t) ∧ w = w' := by
 have h : cnt n = t := ht.out;have hm : maxN = 1099511627776 := rfl
 by_cases h1 : 0 ≤ n
 ·by_cases h2 : n ≤ 1099511627776
  ·have e : t = true := by rw [← h]; unfold cnt; simp; omega
   subst e;clear h ht hm
   go_enter Tryz.func37, Tryz.ntmps37
   go_wp2
   go_ret;exact ⟨rfl, rfl⟩
  ·have e : t = false := by rw [← h]; unfold cnt; simp; omega
   subst e;clear h ht hm
   go_enter Tryz.func37, Tryz.ntmps37
   go_wp2
   go_ret;exact ⟨rfl, rfl⟩
 ·have e : t = false := by rw [← h]; unfold cnt; simp; omega
  subst e;clear h ht hm
  go_enter Tryz.func37, Tryz.ntmps37
  go_wp2
  go_ret;exact ⟨rfl, rfl⟩
theorem store_class (x : Item) (w : World) (hc : Chunks w) :
  Calls Tryz.prog 40 #[.agg #[.string x.key, .int .i64 x.flags, .int .i64 x.till, .int .i64 x.cas, .int .i64 x.used, .string x.value, .bool x.far, .int .i64 x.place.page, .int .i64 x.place.off]] w (IdxC x.cls w) := by
 have HC := hid hc;clear hc
 go_enter Tryz.func40, Tryz.ntmps40
 go_wp2_with fail
 refine (store_Class x.key.size x.value.size _ (HC.out.keep (Below.keeps (by go_grown)))).mono ?_;rintro e w2 ⟨rfl, hb⟩
 go_wp2_with fail
 go_ret;exact ⟨rfl, Below.trans (by go_grown) (hb.mono (by go_size))⟩
def ItemEnd (s : Store) (x : Item) (w : World) (e : Ending) (w' : World) : Prop := e = .returned (.bool (itemOK s x)) ∧ Below w.heap.size w w'
theorem key_is (s : ByteArray) (t : Bool) (ht : Hid (keyOK s = t)) (w : World) (hs : s.size ≤ 9223372036854775807) : Calls Tryz.prog 52 #[.string s] w fun e w' => e = .returned (.bool t) ∧ Below w.heap.size w w' := by
 refine (wire_Key s w hs).mono ?_;rintro e w' ⟨rfl, hb⟩;exact ⟨by rw [← ht.out]; rfl, hb⟩
theorem read_is (f : Flash) (q : Place) (v : ByteArray) (n : Int) (hv : Hid (bl v = (f.read q).1)) (hn : Hid (n = (f.read q).2)) (a : Option Addr) (c : Nat) (w : World) (h : RowsAt w a 2 (PageR w) f.pages) (hl : f.pages.length ≤ 9223372036854775807) :
  Calls Tryz.prog 75 #[.agg #[.int .i64 f.most, .int .i64 f.next, .slice a f.pages.length c], .agg #[.int .i64 q.page, .int .i64 q.off]] w fun e w' => e = .returned (.tuple #[.string v, .int .i64 n]) ∧ Below w.heap.size w w' := by
 refine (flash_Read f q a c w h hl).mono ?_;rintro e w' ⟨rfl, hb⟩;exact ⟨by rw [hn.out, ← hv.out, mk_bl], hb⟩
set_option maxHeartbeats 4000000 in
set_option maxRecDepth 100000 in
theorem store_item (s : Store) (x : Item) (a fa : Option Addr) (c fc : Nat) (w : World) (hF : RowsAt w fa 2 (PageR w) s.flash.pages) (hfl : s.flash.pages.length ≤ 9223372036854775807) (hk : x.key.size ≤ 9223372036854775807) (hv : x.value.size ≤ 9223372036854775807) :
  Calls Tryz.prog 39 #[.agg (storeV s a c fa fc), .agg #[.string x.key, .int .i64 x.flags, .int .i64 x.till, .int .i64 x.cas, .int .i64 x.used, .string x.value, .bool x.far, .int .i64 x.place.page, .int .i64 x.place.off]] w (ItemEnd s x w) := by
 have HF := hid hF;clear hF;obtain ⟨t, ht⟩ : ∃ t, keyOK x.key = t := ⟨_, rfl⟩;obtain ⟨tc, htc⟩ : ∃ t, cnt x.till = t := ⟨_, rfl⟩;obtain ⟨rv, hrv⟩ : ∃ v : ByteArray, bl v = (s.flash.read x.place).1 := ⟨⟨(s.flash.read x.place).1.toArray⟩, bl_mk _⟩;obtain ⟨rn, hrn⟩ : ∃ n, n = (s.flash.read x.place).2 := ⟨_, rfl⟩;have HT := hid ht;have HTC := hid htc;have HRV := hid hrv;have HRN := hid hrn;clear ht htc hrv hrn
 go_enter Tryz.func39, Tryz.ntmps39
 go_wp2_with fail
 refine (key_is x.key t HT _ hk).mono ?_;rintro e w1 ⟨rfl, hb⟩;have hbw : Below w.heap.size w w1 := Below.trans (by go_grown) (hb.mono (by go_size));have hz : w.heap.size + 2 ≤ w1.heap.size := by have := hb.size; simp at this; omega
 have s1 := (hb.cell (p := ⟨w.heap.size, 1, none⟩) (by go_size)).trans (show _ = some (.int .i64 s.cas) by go_simp);have s2 := (hb.cell (p := ⟨w.heap.size, 2, none⟩) (by go_size)).trans (show _ = some (.int .i64 s.uses) by go_simp);have s9 := (hb.cell (p := ⟨w.heap.size, 9, none⟩) (by go_size)).trans (show _ = some (.int .i64 s.flash.most) by go_simp);have s10 := (hb.cell (p := ⟨w.heap.size, 10, none⟩) (by go_size)).trans (show _ = some (.int .i64 s.flash.next) by go_simp);have s11 := (hb.cell (p := ⟨w.heap.size, 11, none⟩) (by go_size)).trans (show _ = some (.slice fa s.flash.pages.length fc) by go_simp);have x1 := (hb.cell (p := ⟨w.heap.size + 1, 1, none⟩) (by go_size)).trans (show _ = some (.int .i64 x.flags) by go_simp);have x2 := (hb.cell (p := ⟨w.heap.size + 1, 2, none⟩) (by go_size)).trans (show _ = some (.int .i64 x.till) by go_simp);have x3 := (hb.cell (p := ⟨w.heap.size + 1, 3, none⟩) (by go_size)).trans (show _ = some (.int .i64 x.cas) by go_simp);have x4 := (hb.cell (p := ⟨w.heap.size + 1, 4, none⟩) (by go_size)).trans (show _ = some (.int .i64 x.used) by go_simp);have x5 := (hb.cell (p := ⟨w.heap.size + 1, 5, none⟩) (by go_size)).trans (show _ = some (.string x.value) by go_simp);have x6 := (hb.cell (p := ⟨w.heap.size + 1, 6, none⟩) (by go_size)).trans (show _ = some (.bool x.far) by go_simp);have x7 := (hb.cell (p := ⟨w.heap.size + 1, 7, none⟩) (by go_size)).trans (show _ = some (.int .i64 x.place.page) by go_simp);have x8 := (hb.cell (p := ⟨w.heap.size + 1, 8, none⟩) (by go_size)).trans (show _ = some (.int .i64 x.place.off) by go_simp);have HF1 := hid (HF.out.keep (Below.keeps hbw) (PageR.keep (Below.keeps hbw)));clear hb HF
 cases t
 ·
  go_wp2_with fail
  go_ret;exact ⟨by unfold itemOK; rw [HT.out]; rfl, hbw⟩
 by_cases h1 : 0 ≤ x.flags ∧ x.flags ≤ 65535
 rotate_left
 ·
  have HB : Hid (itemOK s x = false) := by show _ = _; unfold itemOK; rw [HT.out, decide_eq_false h1]; rfl
  rcases (show x.flags < 0 ∨ (0 ≤ x.flags ∧ 65535 < x.flags) by omega) with h | ⟨h, h2⟩
  all_goals
   clear h1
   go_wp2_with fail
   go_ret;exact ⟨by rw [HB.out]; rfl, hbw⟩
 have H1 := hid h1;obtain ⟨h1a, h1b⟩ := h1
 go_wp2_with fail
 refine (counter_is x.till tc HTC _).mono ?_;rintro e w2 ⟨rfl, rfl⟩
 cases tc
 ·
  have HB : Hid (itemOK s x = false) := by show _ = _; unfold itemOK; rw [HT.out, decide_eq_true H1.out, HTC.out]; rfl
  go_wp2_with fail
  go_ret;exact ⟨by rw [HB.out]; rfl, hbw⟩
 by_cases h2 : 1 ≤ x.cas ∧ x.cas ≤ s.cas
 rotate_left
 ·
  have HB : Hid (itemOK s x = false) := by show _ = _; unfold itemOK; rw [HT.out, decide_eq_true H1.out, HTC.out, decide_eq_false h2]; rfl
  rcases (show x.cas < 1 ∨ (1 ≤ x.cas ∧ s.cas < x.cas) by omega) with h | ⟨h, h3⟩
  all_goals
   clear h2
   go_wp2_with fail
   go_ret;exact ⟨by rw [HB.out]; rfl, hbw⟩
 by_cases h3 : 1 ≤ x.used ∧ x.used ≤ s.uses
 rotate_left
 ·
  have HB : Hid (itemOK s x = false) := by show _ = _; unfold itemOK; rw [HT.out, decide_eq_true H1.out, HTC.out, decide_eq_true h2, decide_eq_false h3]; rfl
  obtain ⟨h2a, h2b⟩ := h2
  rcases (show x.used < 1 ∨ (1 ≤ x.used ∧ s.uses < x.used) by omega) with h | ⟨h, h4⟩
  all_goals
   clear h3
   go_wp2_with fail
   go_ret;exact ⟨by rw [HB.out]; rfl, hbw⟩
 by_cases h4 : x.value.size ≤ 200
 rotate_left
 ·
  have HB : Hid (itemOK s x = false) := by show _ = _; unfold itemOK; rw [HT.out, decide_eq_true H1.out, HTC.out, decide_eq_true h2, decide_eq_true h3, decide_eq_false h4]; rfl
  obtain ⟨h2a, h2b⟩ := h2;obtain ⟨h3a, h3b⟩ := h3
  go_wp2_with fail
  go_ret;exact ⟨by rw [HB.out]; rfl, hbw⟩
 have HG : Hid (itemOK s x = (if x.far then decide ((s.flash.read x.place).2 = 0) && decide (x.value.size = 0) && decide (24 ≤ (s.flash.read x.place).1.length) else decide (x.place = ⟨0, 0⟩))) := by
  show _ = _; unfold itemOK; rw [HT.out, decide_eq_true H1.out, HTC.out, decide_eq_true h2, decide_eq_true h3, decide_eq_true h4]; rfl
 obtain ⟨h2a, h2b⟩ := h2;obtain ⟨h3a, h3b⟩ := h3;obtain ⟨far, hfar⟩ : ∃ b, b = x.far := ⟨_, rfl⟩;rw [← hfar] at x6;have HFAR := hid hfar;clear hfar
 cases far
 ·
  have HG2 : Hid (itemOK s x = decide (x.place = ⟨0, 0⟩)) := by show _ = _; rw [HG.out, ← HFAR.out]; rfl
  obtain ⟨⟨pp, po⟩, hpl⟩ : ∃ p, p = x.place := ⟨_, rfl⟩;rw [← hpl] at x7 x8 HG2;clear hpl
  by_cases e1 : pp = 0
  ·by_cases e2 : po = 0
   ·have HR : Hid (itemOK s x = true) := by show _ = _; rw [HG2.out, e1, e2]; rfl
    subst e1 e2
    go_wp2_with fail
    go_ret;exact ⟨by rw [HR.out]; rfl, hbw⟩
   ·have HR : Hid (itemOK s x = false) := by show _ = _; rw [HG2.out]; simp [e2]
    subst e1;have e3 : (po == 0) = false := by simp [e2]
    clear e2
    go_wp2_with fail
    go_ret;exact ⟨by rw [HR.out]; rfl, hbw⟩
  ·have HR : Hid (itemOK s x = false) := by show _ = _; rw [HG2.out]; simp [e1]
   have e3 : (pp == 0) = false := by simp [e1]
   clear e1
   go_wp2_with fail
   go_ret;exact ⟨by rw [HR.out]; rfl, hbw⟩
 ·
  have HG2 : Hid (itemOK s x = (decide (rn = 0) && decide (x.value.size = 0) && decide (24 ≤ rv.size))) := by
   show _ = _; rw [HG.out, ← HFAR.out, ← HRN.out, ← HRV.out, bl_length]; rfl
  go_wp2_with fail
  refine (read_is s.flash x.place rv rn HRV HRN fa fc _ HF1.out hfl).mono ?_;rintro e w3 ⟨rfl, hb3⟩;have hbw3 : Below w.heap.size w w3 := hbw.trans (hb3.mono hbw.size);have y5 := (hb3.cell (p := ⟨w.heap.size + 1, 5, none⟩) (by show w.heap.size + 1 < w1.heap.size; omega)).trans x5;clear hb3 s1 s2 s9 s10 s11 x1 x2 x3 x4 x5 x6 x7 x8 hbw
  by_cases e1 : rn = 0
  rotate_left
  ·have HR : Hid (itemOK s x = false) := by show _ = _; rw [HG2.out, decide_eq_false e1]; rfl
   have e3 : (rn == 0) = false := by simp [e1]
   clear e1
   go_wp2_with fail
   go_ret;exact ⟨by rw [HR.out]; rfl, hbw3⟩
  ·have e3 : (rn == 0) = true := by simp [e1]
   have HG3 : Hid (itemOK s x = (decide (x.value.size = 0) && decide (24 ≤ rv.size))) := by show _ = _; rw [HG2.out, decide_eq_true e1]; rfl
   clear e1
   go_wp2_with fail
   ·have hv0 : x.value.toList = [] := by assumption
    have hs0 : x.value.size = 0 := by rw [bl_toList] at hv0; rw [← bl_length, hv0]; rfl
    have HR : Hid (itemOK s x = decide (24 ≤ (rv.size : Int))) := by show _ = _; rw [HG3.out, decide_eq_true hs0, Bool.true_and]; simp; omega
    go_ret;exact ⟨by rw [HR.out]; rfl, hbw3⟩
   ·have hv0 : ¬ x.value.toList = [] := by assumption
    have hs0 : ¬ x.value.size = 0 := fun h => hv0 (by rw [bl_toList]; exact List.eq_nil_of_length_eq_zero (by rw [bl_length]; exact h))
    have HR : Hid (itemOK s x = false) := by show _ = _; rw [HG3.out, decide_eq_false hs0]; rfl
    go_ret;exact ⟨by rw [HR.out]; rfl, hbw3⟩
end Go.Proofs.YtbeegfkfpkfccaaGreatDoor.D
