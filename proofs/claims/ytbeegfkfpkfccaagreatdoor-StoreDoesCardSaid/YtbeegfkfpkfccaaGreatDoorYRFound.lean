/-
 Contract: ref.foundItem: the item of a key that is there, and its value.
-/
import Derived.Test.YtbeegfkfpkfccaaGreatDoorYRefA
import Derived.Test.YtbeegfkfpkfccaaGreatDoorYPlain
import Derived.Test.YtbeegfkfpkfccaaGreatDoorYRd
namespace Go.Proofs.YtbeegfkfpkfccaaGreatDoor.D
open Go.RowKit
abbrev itemZ : Array Value := #[.string ⟨#[]⟩, .int .i64 0, .int .i64 0, .int .i64 0, .int .i64 0, .string ⟨#[]⟩, .bool false, .int .i64 0, .int .i64 0]
theorem itemSizeR : (Tryz.prog.info? 83).map (·.size) = some 9 := by kernel_rfl
theorem item_oneR (x : Item) : (#[.string x.key, .int .i64 x.flags, .int .i64 x.till, .int .i64 x.cas, .int .i64 x.used, .string x.value, .bool x.far, .int .i64 x.place.page, .int .i64 x.place.off] : Array Value).all (·.oneCell') = true := by simp [Value.oneCell']
theorem itemZ_one : itemZ.all (·.oneCell') = true := by simp [Value.oneCell']
theorem rread_is (f : Flash) (q : Place) (v : ByteArray) (n : Int) (hv : Hid (bl v = (f.read q).1)) (hn : Hid (n = (f.read q).2)) (a : Option Addr) (c : Nat) (w : World) (h : RowsAt w a 2 (PageR w) f.pages) (hl : f.pages.length ≤ 9223372036854775807) :
  Calls Tryz.prog 61 #[.agg #[.int .i64 f.most, .int .i64 f.next, .slice a f.pages.length c], .agg #[.int .i64 q.page, .int .i64 q.off]] w fun e w' => e = .returned (.tuple #[.string v, .int .i64 n]) ∧ Below w.heap.size w w' := by
 refine (ref_FlashRead f q a c w h hl).mono ?_;rintro e w' ⟨rfl, hb⟩;exact ⟨by rw [hn.out, ← hv.out, mk_bl], hb⟩
theorem four_new (w : World) (o1 o2 o3 o4 : Obj) : ∃ W, W = (((w.alloc o1).alloc o2).alloc o3).alloc o4 ∧ Below w.heap.size w W ∧ W.heap[w.heap.size]? = some o1 ∧ W.heap[w.heap.size + 1]? = some o2 ∧ W.heap[w.heap.size + 2]? = some o3 ∧ W.heap[w.heap.size + 3]? = some o4 ∧ w.heap.size + 4 = W.heap.size := by
 have s1 : (w.alloc o1).heap.size = w.heap.size + 1 := by simp
 have s2 : ((w.alloc o1).alloc o2).heap.size = w.heap.size + 2 := by simp
 have s3 : (((w.alloc o1).alloc o2).alloc o3).heap.size = w.heap.size + 3 := by simp
 refine ⟨_, rfl, by go_grown, ?_, ?_, ?_, ?_, by simp⟩
 ·rw [Below.heap_alloc _ _ _ (by omega), Below.heap_alloc _ _ _ (by omega), Below.heap_alloc _ _ _ (by omega)]; exact blk_new w _
 ·rw [Below.heap_alloc _ _ _ (by omega), Below.heap_alloc _ _ _ (by omega), ← s1]; exact blk_new _ _
 ·rw [Below.heap_alloc _ _ _ (by omega), ← s2]; exact blk_new _ _
 ·rw [← s3]; exact blk_new _ _
def FoundEnd (base : Nat) (s : Store) (key : ByteArray) (va fa : Option Addr) (vc fc : Nat) (w : World) (E : Ending) (w' : World) : Prop :=
 ((live s (bl key)).2 = none ∧ ∃ va' vc', E = .returned (.tuple #[.agg (storeV (live s (bl key)).1 va' vc' fa fc), .agg itemZ, .string ⟨#[]⟩, .bool false]) ∧ RSt base w' (live s (bl key)).1 va' vc' fa fc ∧ Below w.heap.size w w' ∧ (va' = va ∨ ∀ a, va' = some a → w.heap.size ≤ a.block)) ∨
 (∃ (i : Nat) (x : Item), live s (bl key) = (s, some i) ∧ s.items[i]? = some x ∧ E = .returned (.tuple #[.agg (storeV s va vc fa fc), .agg #[.string x.key, .int .i64 x.flags, .int .i64 x.till, .int .i64 x.cas, .int .i64 x.used, .string x.value, .bool x.far, .int .i64 x.place.page, .int .i64 x.place.off], .string (valueOf s x), .bool true]) ∧ RSt base w' s va vc fa fc ∧ Below w.heap.size w w')
set_option maxRecDepth 100000 in
set_option maxHeartbeats 4000000 in
theorem ref_foundItem (s : Store) (key : ByteArray) (hs : SOk s) (base : Nat) (va fa : Option Addr) (vc fc : Nat) (w : World) (ho : RSt base w s va vc fa fc) (hbw : base ≤ w.heap.size) :
  Calls Tryz.prog 65 #[.agg (storeV s va vc fa fc), .string key] w (FoundEnd base s key va fa vc fc w) := by
 have hlen := hs.len;have hr := hs.rise;obtain ⟨n, hn⟩ : ∃ n, n = s.items.length := ⟨_, rfl⟩;have HNN := hid hn;have HS := hid hs;obtain ⟨W, hW, hb0, r0, r1, r2, r3, hz⟩ := four_new w (.cells (storeV s va vc fa fc) 28) (.cells #[.string key] 9) (.cells storeZ 28) (.cells itemZ 83);have R0 := hid r0;have R1 := hid r1;have R2 := hid r2;have R3 := hid r3;have O0 := hid (ho.below hb0);have HB0 := hid hb0;have HVA : Hid (∀ a, va = some a → a.block < w.heap.size) := fun a ha => (ho.va_lt a ha).2
 have HFA : Hid (s.flash.pages ≠ [] → ∀ a, fa = some a → a.block < w.heap.size) := fun hp a ha => (ho.fa_lt hp a ha).2
 clear hs ho r0 r1 r2 r3 hb0 hn
 go_enter Tryz.func65, Tryz.ntmps65
 go_upto_region 1 with (fail);rw [← hW];clear hW
 go_wp2_with fail
 go_loopw [8] (fun v wr => ∃ j : Nat, j ≤ s.items.length ∧ v = .int .i64 j ∧ Hid (∀ i (hi : i < s.items.length), i < j → bl s.items[i].key ≠ bl key) ∧ Hid (Below W.heap.size W wr)) (fun v _ => s.items.length - (intOf v).toNat)
 case atStart => exact ⟨0, Nat.zero_le _, rfl, fun i hi h => absurd h (Nat.not_lt_zero _), Below.refl _ _⟩
 case round =>
  obtain ⟨j, hj, rfl, HF, HB⟩ := hrel;have Q0 := hid ((HB.out.block w.heap.size (by omega)).trans R0.out);have Q1 := hid ((HB.out.block (w.heap.size + 1) (by omega)).trans R1.out);have Q2 := hid ((HB.out.block (w.heap.size + 2) (by omega)).trans R2.out);have Q3 := hid ((HB.out.block (w.heap.size + 3) (by omega)).trans R3.out);have O1 := hid (O0.out.below HB.out);have HBw := hid (HB0.out.trans (HB.out.mono HB0.out.size));have hzr : w.heap.size + 4 ≤ wr.heap.size := by have := HB.out.size; omega
  have x8 : wr.cell? ⟨w.heap.size, 8, none⟩ = some (.slice va n vc) := by rw [cell_of_row wr _ _ _ _ _ Q0.out, HNN.out]; rfl
  clear O0 R0 R1 R2 R3
  by_cases hlt : j < n
  ·obtain ⟨gi, rfl, hbg, hgl, hnc, hcm⟩ := O1.out.gi (by have := HNN.out; omega)
   have hji : j < s.items.length := by have := HNN.out; omega
   obtain ⟨x, hxx⟩ : ∃ x, x = s.items[j] := ⟨_, rfl⟩;have HX : Hid (s.items[j]? = some x) := by show _ = _; rw [hxx]; exact List.getElem?_eq_getElem hji
   have HXX := hid hxx;have hib : itemOK s x = true := by rw [hxx]; exact HS.out.items _ (List.getElem_mem hji)
   have HIB := hid hib;obtain ⟨d0, d1, d2, d3, d4, d5, d6, d7, d8⟩ := own_item O1.out.row HX.out;clear hxx hib;go_upto_region 5 with (fail);obtain ⟨W2, hW2⟩ : ∃ W2, W2 = wr.alloc (.cells #[.string x.key, .int .i64 x.flags, .int .i64 x.till, .int .i64 x.cas, .int .i64 x.used, .string x.value, .bool x.far, .int .i64 x.place.page, .int .i64 x.place.off] 83) := ⟨_, rfl⟩;have hb2 := below_new hW2;obtain ⟨X, hX⟩ : ∃ X, X = wr.heap.size := ⟨_, rfl⟩;have RX : Hid (W2.heap[X]? = some (.cells #[.string x.key, .int .i64 x.flags, .int .i64 x.till, .int .i64 x.cas, .int .i64 x.used, .string x.value, .bool x.far, .int .i64 x.place.page, .int .i64 x.place.off] 83 (0, 0))) := by show _ = _; rw [hW2, hX]; exact blk_new wr _
   rw [← hW2, ← hX];have P0 := hid ((hb2.block w.heap.size (by omega)).trans Q0.out);have P1 := hid ((hb2.block (w.heap.size + 1) (by omega)).trans Q1.out);have P2 := hid ((hb2.block (w.heap.size + 2) (by omega)).trans Q2.out);have P3 := hid ((hb2.block (w.heap.size + 3) (by omega)).trans Q3.out);have O2 := hid (O1.out.below hb2);have HB2 : Hid (Below w.heap.size w W2) := HBw.out.trans (hb2.mono HBw.out.size);have HB3 : Hid (Below W.heap.size W W2) := HB.out.trans (hb2.mono HB.out.size);have hz2 : w.heap.size + 4 ≤ X := by omega
   clear hW2 hb2 hX d0 d1 d2 d3 d4 d5 d6 d7 d8 Q0 Q1 Q2 Q3 O1 HBw HB x8 hgl;have y0 : W2.cell? ⟨X, 0, none⟩ = some (.string x.key) := cor RX.out rfl;have y2 : W2.cell? ⟨X, 2, none⟩ = some (.int .i64 x.till) := cor RX.out rfl;have k0 : W2.cell? ⟨w.heap.size + 1, 0, none⟩ = some (.string key) := cor P1.out rfl;have c0 : W2.cell? ⟨w.heap.size, 0, none⟩ = some (.int .i64 s.clock) := cor P0.out rfl
   by_cases hkey : bl x.key = bl key
   rotate_left
   ·have he : (x.key.toList == key.toList) = false := by rw [bl_toList, bl_toList, beq_eq_false_iff_ne]; exact hkey
    have HF2 : Hid (∀ i (hi : i < s.items.length), i < j + 1 → bl s.items[i].key ≠ bl key) := fun i hi hij => by
     rcases Nat.lt_or_ge i j with h | h
     ·exact HF.out i hi h
     ·obtain rfl : i = j := by omega
      rw [← HXX.out]; exact hkey
    clear HF hkey HX HXX HIB RX P0 P1 P2 P3 O2 y2 c0
    go_wp2_with fail
    go_roundw
    case rel => exact ⟨j + 1, by omega, by go_num, HF2, HB3⟩
    case measure => simp [intOf]; omega
   ·have he : (x.key.toList == key.toList) = true := by rw [bl_toList, bl_toList, hkey]; simp
    have hti : 0 ≤ x.till := ((itemOK_iff s x).1 HIB.out).2.2.1.1;clear HF
    by_cases hov : x.till ≠ 0 ∧ x.till ≤ s.clock
    ·have h1 : 0 < x.till := by omega
     have h2 : x.till ≤ s.clock := hov.2;have HL : Hid (live s (bl key) = ({ s with items := s.items.eraseIdx j }, none)) := live_over hr HX.out hkey hov;have HO : Hid (otherKey s.items (bl key) = s.items.eraseIdx j) := by show _ = _; rw [← hkey, HXX.out]; exact other_erase hr hji
     have x8 : W2.cell? ⟨w.heap.size, 8, none⟩ = some (.slice (some ⟨gi, 0, none⟩) n vc) := by rw [cell_of_row W2 _ _ _ _ _ P0.out, HNN.out]; rfl
     clear hov hti HX HXX HIB RX;go_upto_region 7 with (fail)
     go_wp2_with fail
     have hx := ref_except 96 (w.heap.size + 1) (fun y => bl y.key == bl key) s.items (some ⟨gi, 0, none⟩) vc W2 O2.out.at.items hlen (strikes_found k0);rw [← HNN.out] at hx;refine hx.mono ?_;clear hx;rintro e w5 ⟨v, rfl, how, hb5⟩;obtain ⟨va', vc', rfl⟩ := own_slice how;obtain ⟨L, hL⟩ : ∃ L, L = s.items.eraseIdx j := ⟨_, rfl⟩;have HEL : Hid (s.items.filter (fun y => !(bl y.key == bl key)) = L) := by rw [hL]; exact HO.out
     rw [HEL.out] at how ⊢;have HOW := hid (owns_low (base' := base) how (by have := HB2.out.size; omega));have HVN : Hid (∀ a, va' = some a → w.heap.size + 4 ≤ a.block) := fun a ha => by subst ha; have := (how.lt a.block rfl).1; have := (blt P3.out); omega
     have hsub : ∀ y ∈ L, y ∈ s.items := by rw [hL]; exact fun y hy => (List.eraseIdx_sublist _ _).mem hy
     have HLB : Hid ((∀ y ∈ L, ItemB y) ∧ L.length ≤ 1000) := by
      refine ⟨fun y hy => HS.out.itemB y (hsub y hy), ?_⟩;have := (List.eraseIdx_sublist s.items j).length_le;rw [hL]; omega
     have O5 := hid (O2.out.below hb5);have HB5 := hid (HB2.out.trans (hb5.mono HB2.out.size));have N0 := hid ((hb5.block w.heap.size (by have := HB2.out.size; have := (blt P0.out); omega)).trans P0.out);have N2 := hid ((hb5.block (w.heap.size + 2) (blt P2.out)).trans P2.out);have N3 := hid ((hb5.block (w.heap.size + 3) (blt P3.out)).trans P3.out);have HLL := hid hL;clear hL;clear how hb5 P0 P1 P2 P3 O2 HB2 HB3 y0 y2 k0 c0 x8 hsub HEL;have z8 : w5.cell? ⟨w.heap.size, 8, none⟩ = some (.slice (some ⟨gi, 0, none⟩) s.items.length vc) := cor N0.out rfl;have f8 : ∀ j, w5.frozen? ⟨w.heap.size, j, none⟩ = false := fun j => frozen_of_row w5 _ _ _ _ N0.out
     go_upto_region 8 with (fail);obtain ⟨W6, hW6⟩ : ∃ W6, W6 = w5.setCell ⟨w.heap.size, 8, none⟩ (.slice va' L.length vc') := ⟨_, rfl⟩;rw [← hW6]
     have M0 : Hid (W6.heap[w.heap.size]? = some (.cells (storeV ({ s with items := L }) va' vc' fa fc) 28 (0, 0))) := by
      show _ = _;rw [hW6, setCell_eq_setRow w5 w.heap.size 8 _ _ _ _ N0.out, setRow_heap w5 w.heap.size _ _ _ _ N0.out]
      simp [storeV]
     have M2 : Hid (W6.heap[w.heap.size + 2]? = some (.cells storeZ 28 (0, 0))) := by show _ = _; rw [hW6]; exact blk_off N2.out (by omega)
     have M3 : Hid (W6.heap[w.heap.size + 3]? = some (.cells itemZ 83 (0, 0))) := by show _ = _; rw [hW6]; exact blk_off N3.out (by omega)
     have O6 : Hid (RSt base W6 ({ s with items := L }) va' vc' fa fc) := by
      rw [hW6, setCell_eq_setRow w5 w.heap.size 8 _ _ _ _ N0.out];exact (O5.out.items HOW.out HLB.out.1 HLB.out.2 (fun hp a f ha hf => by have := HVN.out a ha; have := HFA.out hp f hf; omega)).setAt N0.out (by decide) (fun a ha => by have := HVN.out a ha; omega) (fun hp a ha => by have := HFA.out hp a ha; omega)
     have HB6 : Hid (Below w.heap.size w W6) := by show Below _ _ _; rw [hW6]; exact HB5.out.setCell (p := ⟨w.heap.size, 8, none⟩) (Nat.le_refl _) _
     clear z8 f8 hW6 N0 N2 N3 HOW O5 HB5 HLB;obtain ⟨WF, hWF⟩ : ∃ WF, WF = (W6.setRow (w.heap.size + 2) (storeV ({ s with items := L }) va' vc' fa fc)).setRow (w.heap.size + 3) itemZ := ⟨_, rfl⟩;have G2 : Hid (WF.heap[w.heap.size + 2]? = some (.cells (storeV ({ s with items := L }) va' vc' fa fc) 28 (0, 0))) := by show _ = _; rw [hWF, setRow_other _ _ _ _ (by omega)]; exact setRow_heap _ _ _ _ _ _ M2.out
     have T3 : Hid ((W6.setRow (w.heap.size + 2) (storeV ({ s with items := L }) va' vc' fa fc)).heap[w.heap.size + 3]? = some (.cells itemZ 83 (0, 0))) := (setRow_other _ _ _ _ (by omega)).trans M3.out;have G3 : Hid (WF.heap[w.heap.size + 3]? = some (.cells itemZ 83 (0, 0))) := by show _ = _; rw [hWF]; exact setRow_heap _ _ _ _ _ _ T3.out
     go_wp2_with (first
      | refine wpList_load_row rfl 28 _ rfl w.heap.size rfl _ _ _ _ M0.out Tryz.underlying28 rfl (by kernel_rfl) ?_
      | refine wpList_store_row rfl 28 _ _ rfl (w.heap.size + 2) _ rfl rfl _ _ M2.out storeSize rfl (store_one _ _ _ _ _) ?_
      | refine wpList_store_row rfl 83 _ _ rfl (w.heap.size + 3) _ rfl rfl _ _ T3.out itemSizeR rfl (itemZ_one) ?_)
     rw [← hWF];refine bodyPost_ret (v := .tuple #[.agg (storeV ({ s with items := L }) va' vc' fa fc), .agg itemZ, .string ⟨#[]⟩, .bool false]) (resultsCCTT rfl _ _ (w.heap.size + 2) (w.heap.size + 3) _ _ _ _ rfl rfl rfl rfl (run_loadVar_row _ _ _ _ _ _ _ G2.out Tryz.underlying28 rfl storeSize) (run_loadVar_row _ _ _ _ _ _ _ G3.out Tryz.underlying83 rfl itemSizeR)) rfl ?_;refine .inl ⟨by rw [HL.out], va', vc', ?_, ?_, ?_, .inr fun a ha => by have := HVN.out a ha; omega⟩
     ·rw [HL.out, ← HLL.out]
     ·rw [HL.out, ← HLL.out, hWF]
      exact (O6.out.setAt M2.out (by decide) (fun a ha => by have := HVN.out a ha; omega) (fun hp a ha => by have := HFA.out hp a ha; omega)).setAt T3.out (by decide) (fun a ha => by have := HVN.out a ha; omega) (fun hp a ha => by have := HFA.out hp a ha; omega)
     ·rw [hWF]
      exact (HB6.out.trans (Below.setRow _ (w.heap.size + 2) _ (by omega))).trans (Below.setRow _ (w.heap.size + 3) _ (by omega))
    ·have h1 : ¬ (0 < x.till ∧ x.till ≤ s.clock) := by omega
     have HL : Hid (live s (bl key) = (s, some j)) := live_here hr HX.out hkey hov;have c5 : W2.cell? ⟨X, 5, none⟩ = some (.string x.value) := cor RX.out rfl;have c6 : W2.cell? ⟨X, 6, none⟩ = some (.bool x.far) := cor RX.out rfl;have c7 : W2.cell? ⟨X, 7, none⟩ = some (.int .i64 x.place.page) := cor RX.out rfl;have c8 : W2.cell? ⟨X, 8, none⟩ = some (.int .i64 x.place.off) := cor RX.out rfl;have c9 : W2.cell? ⟨w.heap.size, 9, none⟩ = some (.int .i64 s.flash.most) := cor P0.out rfl;have c10 : W2.cell? ⟨w.heap.size, 10, none⟩ = some (.int .i64 s.flash.next) := cor P0.out rfl;have c11 : W2.cell? ⟨w.heap.size, 11, none⟩ = some (.slice fa s.flash.pages.length fc) := cor P0.out rfl;have HV0 : Hid (Below w.heap.size w W2) := HB2;clear HB3;go_upto_region 6 with (fail)
     go_cut [36] (fun v wx => v = .bool false ∧ wx = W2)
     case first =>
      by_cases ht0 : 0 < x.till
      ·have ht1 : ¬ x.till ≤ s.clock := fun h => h1 ⟨ht0, h⟩
       go_wp2_with fail
       go_meet;exact ⟨rfl, rfl⟩
      ·go_wp2_with fail
       go_meet;exact ⟨rfl, rfl⟩
     case rest =>
      obtain ⟨rfl, hwc⟩ := hcut;rw [hwc];clear hwc h1 hov y0 y2 c0 k0 he
      go_upto_if 47 with (fail)
      go_cut [10] (fun v wx => v = .string (valueOf s x) ∧ Below W2.heap.size W2 wx)
      case first =>
       cases hf : x.far with
       | false =>
        have HV : Hid (valueOf s x = x.value) := by show _ = _; unfold valueOf; rw [hf]; rfl
        rw [hf] at c6
        go_wp2_with fail
        go_meet;exact ⟨by rw [HV.out], Below.refl _ _⟩
       | true =>
        have HV : Hid (bl (valueOf s x) = (s.flash.read x.place).1) := by show _ = _; unfold valueOf; rw [hf, if_pos rfl]; exact bl_mk _
        rw [hf] at c6;obtain ⟨vv, hvv⟩ : ∃ v, v = valueOf s x := ⟨_, rfl⟩;rw [← hvv] at HV;have HVV := hid hvv;obtain ⟨rn, hrn⟩ : ∃ m, m = (s.flash.read x.place).2 := ⟨_, rfl⟩;have HRN := hid hrn;have HPG := hid O2.out.at.pages;have hpl : s.flash.pages.length ≤ 9223372036854775807 := by have := O2.out.plen; omega
        clear hvv hrn hf
        go_wp2_with fail
        refine (rread_is s.flash x.place vv rn HV HRN fa fc W2 HPG.out hpl).mono ?_;rintro e w5 ⟨rfl, hb5⟩
        go_wp2_with fail
        go_meet;exact ⟨by rw [HVV.out], hb5⟩
      case rest =>
       obtain ⟨rfl, hbq⟩ := hcut;have J0 := hid ((hbq.block w.heap.size (blt P0.out)).trans P0.out);have J2 := hid ((hbq.block (w.heap.size + 2) (blt P2.out)).trans P2.out);have J3 := hid ((hbq.block (w.heap.size + 3) (blt P3.out)).trans P3.out);have JX := hid (bkp hbq RX.out);have O4 := hid (O2.out.below hbq);have HB4 := hid (HB2.out.trans (hbq.mono HB2.out.size));clear hbq P0 P1 P2 P3 RX O2 HB2 HV0 c5 c6 c7 c8 c9 c10 c11;go_upto_region 12 with (fail);refine wp_region_L (fun w' : World => w'.heap[w.heap.size]? = some (.cells (storeV s (some ⟨gi, 0, none⟩) vc fa fc) 28 (0, 0)) ∧ w'.heap[X]? = some (.cells #[.string x.key, .int .i64 x.flags, .int .i64 x.till, .int .i64 x.cas, .int .i64 x.used, .string x.value, .bool x.far, .int .i64 x.place.page, .int .i64 x.place.off] 83 (0, 0))) 6 7 (by kernel_rfl) (by kernel_rfl) ⟨J0.out, JX.out⟩ (fun hHeld => ?_);refine tk 2 ?_ rfl (fun _ _ _ h=>h) (y:=?_) (h:=?_);rotate_left
       ·intro wS hSw; go_simp<;>with_reducible rfl
       walk_nrm;refine wpAnyL_take (i := 0) (v := _) rfl (by kernel_rfl) (fun _ _ _ h => h) (Or.inl ⟨by rfl, fun wS hSw => exec_load_row 28 _ rfl (w.heap.size) rfl _ _ _ _ (hSw.1) Tryz.underlying28 rfl (by kernel_rfl)⟩) (by assumption) ?_;walk_nrm;refine wpAnyL_take (i := 1) (v := _) rfl (by kernel_rfl) (fun _ _ _ h => h) (Or.inl ⟨by rfl, fun wS hSw => exec_load_row 83 _ rfl (X) rfl _ _ _ _ (hSw.2) Tryz.underlying83 rfl (by kernel_rfl)⟩) (by assumption) ?_;walk_nrm;clear hHeld;obtain ⟨W5, hW5⟩ : ∃ W5, W5 = wc.drew := ⟨_, rfl⟩;have hb5 : Below wc.heap.size wc W5 := by rw [hW5]; exact (Below.refl _ _).drew
       rw [← hW5];have N0 := hid ((hb5.block w.heap.size (blt J0.out)).trans J0.out);have NX := hid (bkp hb5 JX.out);have N2 := hid ((hb5.block (w.heap.size + 2) (blt J2.out)).trans J2.out);have N3 := hid ((hb5.block (w.heap.size + 3) (blt J3.out)).trans J3.out);have O5 := hid (O4.out.below hb5);have HB5 := hid (HB4.out.trans (hb5.mono HB4.out.size));clear hb5 hW5;refine wpAnyL_one 3 (by kernel_rfl) ?_;refine ComesUp.mk rfl (fun K hK => ?_);rw [if_pos (by rfl)];refine wp_store_row 28 _ _ rfl (w.heap.size + 2) _ rfl rfl _ _ N2.out storeSize rfl (store_one _ _ _ _ _) ?_;refine hK.out _ _ ⟨(setRow_other _ _ _ _ (by omega)).trans N0.out, (setRow_other _ _ _ _ (by omega)).trans NX.out⟩ ?_;clear hK K;intro hHeld;walk_nrm;clear hHeld;have T := hid ((setRow_other W5 (w.heap.size + 2) (w.heap.size + 3) (storeV s (some ⟨gi, 0, none⟩) vc fa fc) (by omega)).trans N3.out);refine wpAnyL_one 4 (by kernel_rfl) ?_;refine ComesUp.mk rfl (fun K hK => ?_);rw [if_pos (by rfl)];refine wp_store_row 83 _ _ rfl (w.heap.size + 3) _ rfl rfl _ _ T.out itemSizeR rfl (item_oneR x) ?_;obtain ⟨WF, hWF⟩ : ∃ WF, WF = (W5.setRow (w.heap.size + 2) (storeV s (some ⟨gi, 0, none⟩) vc fa fc)).setRow (w.heap.size + 3) (#[.string x.key, .int .i64 x.flags, .int .i64 x.till, .int .i64 x.cas, .int .i64 x.used, .string x.value, .bool x.far, .int .i64 x.place.page, .int .i64 x.place.off]) := ⟨_, rfl⟩;rw [← hWF];have Z1 : Hid (WF.heap[(w.heap.size + 2)]? = some (.cells (storeV s (some ⟨gi, 0, none⟩) vc fa fc) 28 (0, 0))) := by show _ = _; rw [hWF, setRow_other _ _ _ _ (by omega)]; exact setRow_heap _ _ _ _ _ _ N2.out
       have Z2 : Hid (WF.heap[(w.heap.size + 3)]? = some (.cells (#[.string x.key, .int .i64 x.flags, .int .i64 x.till, .int .i64 x.cas, .int .i64 x.used, .string x.value, .bool x.far, .int .i64 x.place.page, .int .i64 x.place.off]) 83 (0, 0))) := by show _ = _; rw [hWF]; exact setRow_heap _ _ _ _ _ _ T.out
       have V0 : Hid (WF.heap[w.heap.size]? = some (.cells (storeV s (some ⟨gi, 0, none⟩) vc fa fc) 28 (0, 0))) := by show _ = _; rw [hWF, setRow_other _ _ _ _ (by omega), setRow_other _ _ _ _ (by omega)]; exact N0.out
       have VX : Hid (WF.heap[X]? = some (.cells #[.string x.key, .int .i64 x.flags, .int .i64 x.till, .int .i64 x.cas, .int .i64 x.used, .string x.value, .bool x.far, .int .i64 x.place.page, .int .i64 x.place.off] 83 (0, 0))) := by show _ = _; rw [hWF, setRow_other _ _ _ _ (by omega), setRow_other _ _ _ _ (by omega)]; exact NX.out
       have HWF := hid hWF;clear hWF;refine hK.out _ _ ⟨V0.out, VX.out⟩ ?_;clear hK K;intro hHeld;walk_nrm;refine tk 5 ?_ rfl (fun _ _ _ h=>h) (y:=?_) (h:=?_);rotate_left
       ·intro wS hSw; go_simp<;>with_reducible rfl
       walk_nrm;refine wpAnyL_last rfl (by kernel_rfl) (fun K hK => ?_);go_simp;refine hK.out _ _ ?_;clear hK K hHeld;walk_nrm;refine wpAnyL_done (by kernel_rfl) ?_ _;have G2 := Z1;have G3 := Z2
       go_wp2_with fail
       refine bodyPost_ret (v := .tuple #[.agg (storeV s (some ⟨gi, 0, none⟩) vc fa fc), .agg #[.string x.key, .int .i64 x.flags, .int .i64 x.till, .int .i64 x.cas, .int .i64 x.used, .string x.value, .bool x.far, .int .i64 x.place.page, .int .i64 x.place.off], .string (valueOf s x), .bool true]) (resultsCCTT rfl _ _ (w.heap.size + 2) (w.heap.size + 3) _ _ _ _ rfl rfl rfl rfl (run_loadVar_row _ _ _ _ _ _ _ G2.out Tryz.underlying28 rfl storeSize) (run_loadVar_row _ _ _ _ _ _ _ G3.out Tryz.underlying83 rfl itemSizeR)) rfl ?_;refine .inr ⟨j, x, HL.out, HX.out, rfl, ?_, ?_⟩
       ·rw [HWF.out]
        exact (O5.out.setNew N2.out (by decide) (w0 := w) (by omega) HVA.out HFA.out).setNew T.out (by decide) (w0 := w) (by omega) HVA.out HFA.out
       ·rw [HWF.out]
        exact (HB5.out.trans (Below.setRow _ (w.heap.size + 2) _ (by omega))).trans (Below.setRow _ (w.heap.size + 3) _ (by omega))
  ·have HL : Hid (live s (bl key) = (s, none)) := live_absent (fun hm => by
    obtain ⟨y, hy, he⟩ := List.mem_map.1 hm;obtain ⟨i, hi, rfl⟩ := List.getElem_of_mem hy
    exact HF.out i hi (by have := HNN.out; omega) he)
   clear HF;obtain ⟨WF, hWF⟩ : ∃ WF, WF = (wr.setRow (w.heap.size + 2) (storeV (s) va vc fa fc)).setRow (w.heap.size + 3) itemZ := ⟨_, rfl⟩;have G2 : Hid (WF.heap[w.heap.size + 2]? = some (.cells (storeV (s) va vc fa fc) 28 (0, 0))) := by show _ = _; rw [hWF, setRow_other _ _ _ _ (by omega)]; exact setRow_heap _ _ _ _ _ _ Q2.out
   have T3 : Hid ((wr.setRow (w.heap.size + 2) (storeV (s) va vc fa fc)).heap[w.heap.size + 3]? = some (.cells itemZ 83 (0, 0))) := (setRow_other _ _ _ _ (by omega)).trans Q3.out;have G3 : Hid (WF.heap[w.heap.size + 3]? = some (.cells itemZ 83 (0, 0))) := by show _ = _; rw [hWF]; exact setRow_heap _ _ _ _ _ _ T3.out
   go_wp2_with (first
    | refine wpList_load_row rfl 28 _ rfl w.heap.size rfl _ _ _ _ Q0.out Tryz.underlying28 rfl (by kernel_rfl) ?_
    | refine wpList_store_row rfl 28 _ _ rfl (w.heap.size + 2) _ rfl rfl _ _ Q2.out storeSize rfl (store_one _ _ _ _ _) ?_
    | refine wpList_store_row rfl 83 _ _ rfl (w.heap.size + 3) _ rfl rfl _ _ T3.out itemSizeR rfl (itemZ_one) ?_)
   rw [← hWF];refine bodyPost_ret (v := .tuple #[.agg (storeV s va vc fa fc), .agg itemZ, .string ⟨#[]⟩, .bool false]) (resultsCCTT rfl _ _ (w.heap.size + 2) (w.heap.size + 3) _ _ _ _ rfl rfl rfl rfl (run_loadVar_row _ _ _ _ _ _ _ G2.out Tryz.underlying28 rfl storeSize) (run_loadVar_row _ _ _ _ _ _ _ G3.out Tryz.underlying83 rfl itemSizeR)) rfl ?_;refine .inl ⟨by rw [HL.out], va, vc, ?_, ?_, ?_, .inl rfl⟩
   ·rw [HL.out]
   ·rw [HL.out, hWF]
    exact (O1.out.setNew Q2.out (by decide) (w0 := w) (by omega) HVA.out HFA.out).setNew T3.out (by decide) (w0 := w) (by omega) HVA.out HFA.out
   ·rw [hWF]
    exact (HBw.out.trans (Below.setRow _ (w.heap.size + 2) _ (by omega))).trans (Below.setRow _ (w.heap.size + 3) _ (by omega))
end Go.Proofs.YtbeegfkfpkfccaaGreatDoor.D
