/-
  Contract: ref.StoreBytes: a store as bytes. Condition: the store takes at most 2^47 bytes.
-/
import Derived.Test.YtbipegbgfdpaeaaDoorCEnc
namespace Go.Proofs.YtbipegbgfdpaeaaDoor.D
open Go.RowKit
theorem sev_is (x : Int) (h0 : 0 ≤ x) (h1 : x ≤ 1099511627776) (w : World) : Calls Tryd.prog 42 #[.int .i64 x] w (RowEnd (sev x.toNat) w) := by
  have := ref_sevens x.toNat (by omega) w
  rwa [show ((x.toNat : Nat) : Int) = x by omega] at this
/-- bytes of the call's own behind bytes of the call's own -/
theorem list_append_src {ops : Array Oper} {rest : List Oper} {o : Oper} {a : Act} {Q : Exit → Act → World → Prop} (w : World) (hgd : o.guard = none) (s x : Operand)
    (ho : o.op = .call { callee := .builtin .append, args := #[s, x], argTypes := #[38, 38] }) (base : Nat) (v : Value) (l : Str) (hs : a.eval s = v) (hown : w.ownsRow base 5 1 v l.length (l.map byteV))
    {base2 : Nat} (v2 : Value) (m : Str) (hx : a.eval x = v2) (hsrc : w.ownsRow base2 5 1 v2 m.length (m.map byteV)) (hm : 0 < m.length)
    (N : Str) (hN : Hid (N = l ++ m)) (hbytes : l.length + m.length ≤ 140737488355328) (hbase : base ≤ w.heap.size)
    (h : ∀ va vc w', w'.ownsRow base 5 1 (.slice va N.length vc) N.length (N.map byteV) → GrewB base w w' → wpList Tryd.prog ops Q rest (a.put o.dst (.slice va N.length vc)) w') : wpList Tryd.prog ops Q (o :: rest) a w := by
  obtain ⟨g, cap, rfl, _, _, _, _, hcell⟩ := own_shape hsrc hm
  refine list_append_row w hgd s x ho base v l hs (.inl hown) ⟨g, 0, none⟩ m.length cap (m.map byteV) hx (by simp) (fun j u hu => by rw [addr_add, Nat.zero_add]; exact hcell j u hu) (by intro u hu; simp at hu; obtain ⟨_, _, rfl⟩ := hu; rfl) hm hbytes hbase (fun va vc w' h1 h2 => ?_)
  rw [← List.length_append, ← List.map_append, ← hN.out] at h1
  rw [← List.length_append, ← hN.out]
  exact h va vc w' h1 (GrewB.of_grown hown h2 hbase)
/-- a byte more -/
theorem list_append_byte {ops : Array Oper} {rest : List Oper} {o : Oper} {a : Act} {Q : Exit → Act → World → Prop} (w : World) (hgd : o.guard = none) (s x : Operand)
    (ho : o.op = .call { callee := .builtin .append, args := #[s, x], argTypes := #[38, 38] }) (base : Nat) (v : Value) (l : Str) (hs : a.eval s = v) (hown : w.ownsRow base 5 1 v l.length (l.map byteV))
    (b n : Nat) (hn : n < 128) (hx : a.eval x = .slice (some ⟨b, 0, none⟩) 1 1) (hb : w.heap[b]? = some (.cells #[.int .u8 (n : Int)] 5 (0, 0)))
    (N : Str) (hN : Hid (N = l ++ sev n)) (hbytes : l.length + 1 ≤ 140737488355328) (hbase : base ≤ w.heap.size)
    (h : ∀ va vc w', w'.ownsRow base 5 1 (.slice va N.length vc) N.length (N.map byteV) → GrewB base w w' → wpList Tryd.prog ops Q rest (a.put o.dst (.slice va N.length vc)) w') : wpList Tryd.prog ops Q (o :: rest) a w := by
  have e1 : (l ++ sev n).length = l.length + 1 := by rw [sev_small hn]; simp
  have e2 : (l ++ sev n).map byteV = l.map byteV ++ [.int .u8 (n : Int)] := by rw [sev_small hn, byte_cell (show n < 256 by omega)]; simp
  refine list_append_row w hgd s x ho base v l hs (.inl hown) ⟨b, 0, none⟩ 1 1 [.int .u8 (n : Int)] hx rfl (World.news_of_block hb) (ones rfl) (by omega) hbytes hbase (fun va vc w' h1 h2 => ?_)
  rw [← e1, ← e2, ← hN.out] at h1
  rw [← e1, ← hN.out]
  exact h va vc w' h1 (GrewB.of_grown hown h2 hbase)
theorem own_len {w : World} {base : Nat} {v : Value} {l : Str} (h : w.ownsRow base 5 1 v l.length (l.map byteV)) : ∃ va vc, v = .slice va l.length vc ∧ w.ownsRow base 5 1 (.slice va l.length vc) l.length (l.map byteV) := by
  rcases h.2 with ⟨rfl, h0⟩ | ⟨k, cap, cur, rfl, rest⟩
  · have : l = [] := List.eq_nil_of_length_eq_zero h0
    subst this
    exact ⟨none, 0, rfl, h⟩
  · exact ⟨_, _, rfl, h⟩
theorem with_is (s : ByteArray) (hs : s.size ≤ 1000000) (base : Nat) (l N : Str) (hN : Hid (N = l ++ textOf (bl s))) (va : Option Addr) (vc : Nat) (w : World) (h : w.ownsRow base 5 1 (.slice va l.length vc) l.length (l.map byteV)) (hbase : base ≤ w.heap.size) (hl : l.length + 10 + s.size ≤ 140737488355328) :
    Calls Tryd.prog 43 #[.slice va l.length vc, .string s] w fun e w' => ∃ va' vc', e = .returned (.slice va' N.length vc') ∧ w'.ownsRow base 5 1 (.slice va' N.length vc') N.length (N.map byteV) ∧ GrewB base w w' := by
  refine (ref_withText s hs base l va vc w h hbase hl).mono ?_
  rintro e w' ⟨v, rfl, how, hg⟩
  rw [← hN.out] at how
  obtain ⟨va', vc', rfl, how'⟩ := own_len how
  exact ⟨va', vc', rfl, how', hg⟩
theorem seal_len (l : Str) : (sealOf l).length = 4 := rfl
theorem smay_is2 (s : Store) (t : Bool) (ht : Hid (s.ok = t)) (a fa : Option Addr) (c fc : Nat) (w : World) (hI : RowsAt w a 9 ItemR s.items) (hF : RowsAt w fa 2 (PageR w) s.flash.pages) (hl : s.items.length ≤ 9223372036854775806) (hfl : s.flash.pages.length ≤ 9223372036854775807) :
    Calls Tryd.prog 13 #[.agg (storeV s a c fa fc)] w fun e w' => e = .returned (.bool t) ∧ Below w.heap.size w w' := smay_is s t ht a fa c fc w hI hF hl hfl
set_option maxRecDepth 100000 in
set_option maxHeartbeats 4000000 in
theorem ref_StoreBytes (s : Store) (a fa : Option Addr) (c fc : Nat) (w : World) (hI : RowsAt w a 9 ItemR s.items) (hF : RowsAt w fa 2 (PageR w) s.flash.pages)
    (hn : s.items.length * 88 ≤ 140737488355328) (hfn : s.flash.pages.length * 32 ≤ 140737488355328) :
    Calls Tryd.prog 18 #[.agg (storeV s a c fa fc)] w (BytesOut s.bytes.1 s.bytes.2 w) := by
  have HI := Lib.hid hI
  have HF := Lib.hid hF
  clear hI hF
  cases hok : s.ok
  ·
    have HOK := Lib.hid hok
    have HT := Lib.hid (bytes_bad hok)
    clear hok
    go_enter Tryd.func18, Tryd.ntmps18
    go_wp2_with fail
    refine (smay_is2 s false HOK a fa c fc _ (HI.out.keep (Below.keeps (by go_grown)) (fun _ _ h => h)) (HF.out.keep (Below.keeps (by go_grown)) (PageR.keep (Below.keeps (by go_grown)))) (by omega) (by omega)).mono ?_
    rintro e wb ⟨rfl, hb1⟩
    have hbw : Below w.heap.size w wb := Below.trans (by go_grown) (hb1.mono (by go_size))
    clear hb1
    go_wp2_with fail
    go_ret2
    rw [HT.out]
    exact ⟨none, 0, rfl, CellsAt.nil _ _, Nat.zero_le _, by omega, hbw⟩
  ·
    have HOK := Lib.hid hok
    have HT := Lib.hid (bytes_good hok)
    have HSN := Lib.hid (store_nums hok)
    clear hok
    go_enter Tryd.func18, Tryd.ntmps18
    go_wp2_with fail
    refine (smay_is2 s true HOK a fa c fc _ (HI.out.keep (Below.keeps (by go_grown)) (fun _ _ h => h)) (HF.out.keep (Below.keeps (by go_grown)) (PageR.keep (Below.keeps (by go_grown)))) (by omega) (by omega)).mono ?_
    rintro e wb ⟨rfl, hb1⟩
    have HROW := Lib.hid ((hb1.block w.heap.size (by go_size)).trans (blk_new w _))
    have hz1 : w.heap.size < wb.heap.size := by have := hb1.size; simp at this; omega
    have HB1 : Hid (Below w.heap.size w wb) := Below.trans (by go_grown) (hb1.mono (by go_size))
    clear hb1
    have s0 : wb.cell? ⟨w.heap.size, 0, none⟩ = some (.int .i64 s.clock) := by rw [cell_of_row wb _ _ _ _ _ HROW.out]; rfl
    have s1 : wb.cell? ⟨w.heap.size, 1, none⟩ = some (.int .i64 s.cas) := by rw [cell_of_row wb _ _ _ _ _ HROW.out]; rfl
    have s2 : wb.cell? ⟨w.heap.size, 2, none⟩ = some (.int .i64 s.uses) := by rw [cell_of_row wb _ _ _ _ _ HROW.out]; rfl
    have s3 : wb.cell? ⟨w.heap.size, 3, none⟩ = some (.int .i64 s.most) := by rw [cell_of_row wb _ _ _ _ _ HROW.out]; rfl
    have s4 : wb.cell? ⟨w.heap.size, 4, none⟩ = some (.int .i64 s.h0) := by rw [cell_of_row wb _ _ _ _ _ HROW.out]; rfl
    have s5 : wb.cell? ⟨w.heap.size, 5, none⟩ = some (.int .i64 s.h1) := by rw [cell_of_row wb _ _ _ _ _ HROW.out]; rfl
    have s6 : wb.cell? ⟨w.heap.size, 6, none⟩ = some (.int .i64 s.h2) := by rw [cell_of_row wb _ _ _ _ _ HROW.out]; rfl
    have s7 : wb.cell? ⟨w.heap.size, 7, none⟩ = some (.int .i64 s.h3) := by rw [cell_of_row wb _ _ _ _ _ HROW.out]; rfl
    have s8 : wb.cell? ⟨w.heap.size, 8, none⟩ = some (.slice a s.items.length c) := by rw [cell_of_row wb _ _ _ _ _ HROW.out]; rfl
    have s9 : wb.cell? ⟨w.heap.size, 9, none⟩ = some (.int .i64 s.flash.most) := by rw [cell_of_row wb _ _ _ _ _ HROW.out]; rfl
    have s10 : wb.cell? ⟨w.heap.size, 10, none⟩ = some (.int .i64 s.flash.next) := by rw [cell_of_row wb _ _ _ _ _ HROW.out]; rfl
    have s11 : wb.cell? ⟨w.heap.size, 11, none⟩ = some (.slice fa s.flash.pages.length fc) := by rw [cell_of_row wb _ _ _ _ _ HROW.out]; rfl
    go_upto_region 5 with (fail)
    obtain ⟨W0, hW0⟩ : ∃ W0, W0 = (wb.alloc (.cells #[.int .u8 100, .int .u8 99, .int .u8 49] 5)).alloc (.cells #[.int .i64 s.clock, .int .i64 s.cas, .int .i64 s.uses, .int .i64 s.most, .int .i64 s.h0, .int .i64 s.h1, .int .i64 s.h2, .int .i64 s.h3, .int .i64 s.flash.most, .int .i64 s.flash.next, .int .i64 (s.flash.pages.length : Nat)] 3) := ⟨_, rfl⟩
    have hb0 : Below wb.heap.size wb W0 := by rw [hW0]; exact ((Below.refl _ _).alloc (Nat.le_refl _) _).alloc (by simp) _
    have hz0 : W0.heap.size = wb.heap.size + 2 := by rw [hW0]; simp
    have HO0 : Hid (W0.ownsRow wb.heap.size 5 1 (.slice (some ⟨wb.heap.size, 0, none⟩) ([100, 99, 49] : Str).length 3) ([100, 99, 49] : Str).length (([100, 99, 49] : Str).map byteV)) := by
      show World.ownsRow _ _ _ _ _ _ _
      rw [hW0]
      exact (ownsRow_lit wb wb.heap.size #[.int .u8 100, .int .u8 99, .int .u8 49] 5 wb.heap.size 3 1 (Nat.le_refl _) rfl (by decide) rfl).alloc _
    have HN0 : Hid (W0.heap[wb.heap.size + 1]? = some (.cells #[.int .i64 s.clock, .int .i64 s.cas, .int .i64 s.uses, .int .i64 s.most, .int .i64 s.h0, .int .i64 s.h1, .int .i64 s.h2, .int .i64 s.h3, .int .i64 s.flash.most, .int .i64 s.flash.next, .int .i64 (s.flash.pages.length : Nat)] 3 (0, 0))) := by
      show _ = _
      have e : wb.heap.size + 1 = (wb.alloc (.cells #[.int .u8 100, .int .u8 99, .int .u8 49] 5)).heap.size := by simp
      rw [hW0, e]; exact blk_new _ _
    have HB0 : Hid (Below w.heap.size w W0) := HB1.out.trans (hb0.mono (by omega))
    have HR0 := Lib.hid ((hb0.block w.heap.size hz1).trans HROW.out)
    rw [← hW0]
    have HFN := Lib.hid (flash_nums HSN.out.flash)
    have hp20 : s.flash.pages.length ≤ 20 := HFN.out.2.2.1
    have hi1000 : s.items.length ≤ 1000 := HSN.out.len
    have HBACK : Hid (∀ wr, GrewB wb.heap.size W0 wr → Below w.heap.size w wr) := fun wr h => HB0.out.trans (h.below.mono (by omega))
    have HST : Hid (∀ wr, GrewB wb.heap.size W0 wr → wr.heap[w.heap.size]? = some (.cells (storeV s a c fa fc) 30 (0, 0))) := fun wr h => (h.below.block w.heap.size hz1).trans HR0.out
    have HCELL : Hid (∀ wr, GrewB wb.heap.size W0 wr → ∀ k (hk : k < 11), wr.cell? ⟨wb.heap.size + 1, k, none⟩ = some (.int .i64 ((numsOf s)[k]'(by rw [numsOf_len]; exact hk)))) := fun wr h k hk => by
      rw [cell_of_row wr _ _ _ _ _ (h.same _ _ _ _ HN0.out (by decide))]
      exact nums_get s k hk
    clear hW0 hb0 s0 s1 s2 s3 s4 s5 s6 s7 s8 s9 s10 s11
    go_wp2_with fail
    go_loopw [4, 6] (fun t i wr => ∃ k : Nat, ∃ va vc, ∃ L : Str, k ≤ 11 ∧ i = .int .i64 k ∧ t = .slice va L.length vc ∧ Hid (wr.ownsRow wb.heap.size 5 1 (.slice va L.length vc) L.length (L.map byteV)) ∧ Hid (GrewB wb.heap.size W0 wr) ∧ Hid (wb.heap.size ≤ wr.heap.size) ∧ Hid (L = [100, 99, 49] ++ sevs ((numsOf s).take k))) (fun _ i _ => 11 - (intOf i).toNat)
    case atStart => exact ⟨0, some ⟨wb.heap.size, 0, none⟩, 3, [100, 99, 49], by omega, rfl, rfl, HO0, GrewB.refl _ _, by show _ ≤ _; omega, rfl⟩
    case round =>
      clear HO0
      obtain ⟨k, va, vc, L, hk, rfl, rfl, HO0, HG0, HZ0, HEL⟩ := hrel
      by_cases hk11 : k < 11
      ·
        have c0 := HCELL.out wr HG0.out k hk11
        have hx := nums_ok HSN.out k (by rw [numsOf_len]; exact hk11)
        have HS := Lib.hid (sevs_snoc (numsOf s) k (by rw [numsOf_len]; exact hk11))
        obtain ⟨x, hxx⟩ : ∃ x, x = (numsOf s)[k]'(by rw [numsOf_len]; exact hk11) := ⟨_, rfl⟩
        rw [← hxx] at c0 hx HS
        obtain ⟨x0, x1⟩ := hx
        have HLS1 : Hid (L.length + (sev x.toNat).length ≤ 140737488355328) := by
          show _ ≤ _
          have h1 := sevs_len ((numsOf s).take k) (fun n hn => by
            obtain ⟨j, hj, rfl⟩ := List.mem_iff_getElem.1 (List.mem_of_mem_take hn)
            exact (nums_ok HSN.out j hj).2)
          have h2 : ((numsOf s).take k).length ≤ 11 := by rw [List.length_take, numsOf_len]; omega
          have h3 := sev_le (n := x.toNat) (by omega)
          rw [HEL.out, List.length_append]
          simp only [List.length_cons, List.length_nil]; omega
        have HE : Hid (L ++ sev x.toNat = [100, 99, 49] ++ sevs ((numsOf s).take (k + 1))) := by show _ = _; rw [HS.out, HEL.out, List.append_assoc]
        have hk0 : (0 : Int) ≤ (k : Int) := by omega
        have hk1 : (k : Int) < 11 := by omega
        clear hxx
        go_wp2_with fail
        obtain ⟨N1, hN1⟩ : ∃ N, N = L ++ sev (x).toNat := ⟨_, rfl⟩
        have HN1 := Lib.hid hN1
        clear hN1
        refine (sev_is x x0 x1 _).mono ?_
        rintro e u1 ⟨v1, rfl, how1, hbb1⟩
        obtain ⟨ga1, gc1, rfl⟩ := own_slice how1
        have HSRC1 := Lib.hid how1
        have HOB1 := Lib.hid (owns_below HO0.out hbb1)
        have HGB1 := Lib.hid (HG0.out.trans (GrewB.of_below hbb1 HZ0.out))
        have HZB1 : Hid (wb.heap.size ≤ u1.heap.size) := Nat.le_trans HZ0.out hbb1.size
        clear how1 hbb1
        go_wp2_with (at_builtin; go_must (refine list_append_src _ rfl (.tmp 51) (.tmp 56) rfl wb.heap.size _ L rfl HOB1.out _ _ rfl HSRC1.out (sev_pos _) N1 HN1 HLS1.out HZB1.out ?_))
        intro va1 vc1 w1 how1 hgr1
        have HO1 := Lib.hid how1
        have HG1 := Lib.hid (HGB1.out.trans hgr1)
        have HZ1 : Hid (wb.heap.size ≤ w1.heap.size) := Nat.le_trans HZB1.out hgr1.size
        clear how1 hgr1
        have HE2 := Lib.hid (HN1.out.trans HE.out)
        clear c0
        go_wp2_with fail
        go_roundw
        case rel => first | exact ⟨k + 1, va1, vc1, N1, by omega, by go_num, rfl, HO1, HG1, HZ1, HE2⟩ | ((repeat apply Exists.intro); exact ⟨⟨k + 1, va1, vc1, N1, by omega, by go_num, rfl, HO1, HG1, HZ1, HE2⟩, rfl⟩)
        case measure => simp [intOf]; omega
      ·
        obtain rfl : k = 11 := by omega
        have e11 : (numsOf s).take 11 = numsOf s := List.take_of_length_le (by rw [numsOf_len]; exact Nat.le_refl _)
        have HE1 : Hid (L = [100, 99, 49] ++ sevs (numsOf s)) := by show _ = _; rw [HEL.out, e11]
        have HLN1 : Hid (L.length ≤ 200) := by
          show _ ≤ _
          have h1 := sevs_len (numsOf s) (fun n hn => by
            obtain ⟨j, hj, rfl⟩ := List.mem_iff_getElem.1 hn
            exact (nums_ok HSN.out j hj).2)
          rw [HE1.out, List.length_append]
          simp only [List.length_cons, List.length_nil, numsOf_len] at h1 ⊢; omega
        obtain ⟨L1, hL1⟩ : ∃ L1 : Str, L1 = L := ⟨_, rfl⟩
        rw [← hL1] at HO0 HLN1 HE1 ⊢
        clear hL1 hk hk11 e11 HEL
        go_wp2_with fail
        obtain ⟨wo, rfl⟩ : ∃ wo : World, wo = wr := ⟨_, rfl⟩
        go_loopw [4, 7] (fun t i wr => ∃ k : Nat, ∃ va vc, ∃ L : Str, k ≤ s.flash.pages.length ∧ i = .int .i64 k ∧ t = .slice va L.length vc ∧ Hid (wr.ownsRow wb.heap.size 5 1 (.slice va L.length vc) L.length (L.map byteV)) ∧ Hid (GrewB wb.heap.size W0 wr) ∧ Hid (wb.heap.size ≤ wr.heap.size) ∧ Hid (L = L1 ++ pagesBytes (s.flash.pages.take k)) ∧ Hid (L.length ≤ 200 + 300 * k)) (fun _ i _ => s.flash.pages.length - (intOf i).toNat)
        case atStart => exact ⟨0, va, vc, L1, by omega, rfl, rfl, HO0, HG0, HZ0, by show _ = _; simp [pagesBytes], by show _ ≤ _; have := HLN1.out; omega⟩
        case round =>
          clear HO0 HG0 HZ0
          obtain ⟨k, va, vc, L, hk, rfl, rfl, HO0, HG0, HZ0, HE2, HLL⟩ := hrel
          have HBW := Lib.hid (HBACK.out wr HG0.out)
          have s11 : wr.cell? ⟨w.heap.size, 11, none⟩ = some (.slice fa s.flash.pages.length fc) := by rw [cell_of_row wr _ _ _ _ _ (HST.out wr HG0.out)]; rfl
          by_cases hlt : k < s.flash.pages.length
          ·
            obtain ⟨b, o, rfl, hc⟩ := HF.out.pos (by omega)
            obtain ⟨cs, _, ⟨_, ba, bc, hcs, hby, _⟩, h3⟩ := hc k hlt
            have hpb := (HFN.out.2.2.2 _ (List.getElem_mem hlt)).2.2
            have HS := Lib.hid (pagesBytes_snoc s.flash.pages k hlt)
            obtain ⟨p, hp⟩ : ∃ p, p = s.flash.pages[k] := ⟨_, rfl⟩
            rw [← hp] at hcs hby hpb HS
            subst hcs
            have hkp := Below.keeps HBW.out
            have c0 := hkp _ _ (h3 0 _ rfl)
            have c1 := hkp _ _ (h3 1 _ rfl)
            rw [Nat.add_zero] at c0
            have st := run_str hby p.bytes.length bc rfl wr hkp
            have hsz : (⟨p.bytes.toArray⟩ : ByteArray).size ≤ 256 := by show p.bytes.toArray.size ≤ 256; simpa using hpb
            have HLX : Hid (L.length + 10 + (⟨p.bytes.toArray⟩ : ByteArray).size ≤ 140737488355328) := by show _ ≤ _; have := HLL.out; omega
            obtain ⟨N, hN⟩ : ∃ N, N = L ++ textOf p.bytes := ⟨_, rfl⟩
            have HN : Hid (N = L ++ textOf (bl ⟨p.bytes.toArray⟩)) := by show _ = _; rw [bl_mk]; exact hN
            have HE3 : Hid (N = L1 ++ pagesBytes (s.flash.pages.take (k + 1))) := by show _ = _; rw [hN, HS.out, HE2.out, List.append_assoc]
            have HL3 : Hid (N.length ≤ 200 + 300 * (k + 1)) := by
              show _ ≤ _; rw [hN]; have := HLL.out; have := textOf_len p.bytes (by omega); rw [List.length_append]; omega
            clear h3 hc hp hby hkp hN
            go_wp2_with fail
            refine (with_is ⟨p.bytes.toArray⟩ (by omega) wb.heap.size L N HN va vc _ HO0.out HZ0.out HLX.out).mono ?_
            rintro e w2 ⟨va2, vc2, rfl, how2, hg2⟩
            have HO2 := Lib.hid how2
            have HG2 := Lib.hid (HG0.out.trans hg2)
            have HZ2 : Hid (wb.heap.size ≤ w2.heap.size) := Nat.le_trans HZ0.out hg2.size
            clear how2 hg2 c0 c1 st s11
            go_wp2_with fail
            go_roundw
            case rel => first | exact ⟨k + 1, va2, vc2, N, by omega, by go_num, rfl, HO2, HG2, HZ2, HE3, HL3⟩ | ((repeat apply Exists.intro); exact ⟨⟨k + 1, va2, vc2, N, by omega, by go_num, rfl, HO2, HG2, HZ2, HE3, HL3⟩, rfl⟩)
            case measure => simp [intOf]; omega
          ·
            have hk2 : k = s.flash.pages.length := by omega
            have HE3 : Hid (L = L1 ++ pagesBytes s.flash.pages) := by
              have h := HE2.out
              rw [hk2, List.take_length] at h
              exact h
            have HLS1 : Hid (L.length + (sev (s.items.length : Int).toNat).length ≤ 140737488355328) := by show _ ≤ _; have := HLL.out; have := sev_le (n := (s.items.length : Int).toNat) (by omega); omega
            have HLP : Hid (L.length ≤ 6200) := by show _ ≤ _; have := HLL.out; omega
            have s8 : wr.cell? ⟨w.heap.size, 8, none⟩ = some (.slice a s.items.length c) := by rw [cell_of_row wr _ _ _ _ _ (HST.out wr HG0.out)]; rfl
            clear hk hk2 HE2 HLL
            go_wp2_with fail
            obtain ⟨N1, hN1⟩ : ∃ N, N = L ++ sev ((s.items.length : Int)).toNat := ⟨_, rfl⟩
            have HN1 := Lib.hid hN1
            clear hN1
            refine (sev_is (s.items.length : Int) (by omega) (by omega) _).mono ?_
            rintro e u1 ⟨v1, rfl, how1, hbb1⟩
            obtain ⟨ga1, gc1, rfl⟩ := own_slice how1
            have HSRC1 := Lib.hid how1
            have HOB1 := Lib.hid (owns_below HO0.out hbb1)
            have HGB1 := Lib.hid (HG0.out.trans (GrewB.of_below hbb1 HZ0.out))
            have HZB1 : Hid (wb.heap.size ≤ u1.heap.size) := Nat.le_trans HZ0.out hbb1.size
            clear how1 hbb1
            go_wp2_with (at_builtin; go_must (refine list_append_src _ rfl (.tmp 76) (.tmp 80) rfl wb.heap.size _ L rfl HOB1.out _ _ rfl HSRC1.out (sev_pos _) N1 HN1 HLS1.out HZB1.out ?_))
            intro va1 vc1 w1 how1 hgr1
            have HO1 := Lib.hid how1
            have HG1 := Lib.hid (HGB1.out.trans hgr1)
            have HZ1 : Hid (wb.heap.size ≤ w1.heap.size) := Nat.le_trans HZB1.out hgr1.size
            clear how1 hgr1
            obtain ⟨L2, hL2⟩ : ∃ L2 : Str, L2 = N1 := ⟨_, rfl⟩
            have HLB : Hid (L2.length ≤ 6210) := by show _ ≤ _; have := HLP.out; have := sev_le (n := (s.items.length : Int).toNat) (by omega); rw [hL2, HN1.out, List.length_append]; omega
            have HE4 : Hid (L2 = L1 ++ pagesBytes s.flash.pages ++ sev s.items.length) := by show _ = _; rw [hL2, HN1.out, HE3.out]; rfl
            rw [← hL2] at HO1 ⊢
            clear hL2 s8 s11 HLS1 HO0 HG0 HZ0 HBW
            go_wp2_with fail
            obtain ⟨wo2, hwo2⟩ : ∃ wo2 : World, wo2 = wr := ⟨_, rfl⟩
            clear hwo2
            go_loopw [4, 8] (fun t i wr => ∃ k : Nat, ∃ va vc, ∃ L : Str, k ≤ s.items.length ∧ i = .int .i64 k ∧ t = .slice va L.length vc ∧ Hid (wr.ownsRow wb.heap.size 5 1 (.slice va L.length vc) L.length (L.map byteV)) ∧ Hid (GrewB wb.heap.size W0 wr) ∧ Hid (wb.heap.size ≤ wr.heap.size) ∧ Hid (L = L2 ++ itemsBytes (s.items.take k)) ∧ Hid (L.length ≤ 6210 + 400 * k)) (fun _ i _ => s.items.length - (intOf i).toNat)
            case atStart => exact ⟨0, va1, vc1, L2, by omega, rfl, rfl, HO1, HG1, HZ1, by show _ = _; simp [itemsBytes], by show _ ≤ _; have := HLB.out; omega⟩
            case round =>
              clear HO1 HG1 HZ1
              clear wo2
              obtain ⟨k, va, vc, L, hk, rfl, rfl, HO9, HG9, HZ9, HEL2, HLL⟩ := hrel
              obtain ⟨wo2, rfl⟩ : ∃ wo2 : World, wo2 = wr := ⟨_, rfl⟩
              have HBW := Lib.hid (HBACK.out wo2 HG9.out)
              have s8 : wo2.cell? ⟨w.heap.size, 8, none⟩ = some (.slice a s.items.length c) := by rw [cell_of_row wo2 _ _ _ _ _ (HST.out wo2 HG9.out)]; rfl
              by_cases hlt : k < s.items.length
              ·
                obtain ⟨b, o, rfl, hc⟩ := HI.out.pos (by omega)
                obtain ⟨cs, _, hcs, h3⟩ := hc k hlt
                have HS := Lib.hid (itemsBytes_snoc s.items k hlt)
                have hin := HSN.out.items _ (List.getElem_mem hlt)
                obtain ⟨x, hxx⟩ : ∃ x, x = s.items[k] := ⟨_, rfl⟩
                rw [← hxx] at hcs HS hin
                have HIN := Lib.hid hin
                have hcs := hcs.1
                subst hcs
                obtain ⟨c0, c1, c2, c3, c4, c5, c6, c7, c8, hbb⟩ := item_cells (Below.keeps HBW.out) h3
                clear h3 hc hxx hin
                go_upto_region 18 with (fail)
                obtain ⟨w10, hV0⟩ : ∃ w10, w10 = wo2.alloc (.cells #[.string x.key, .int .i64 x.flags, .int .i64 x.till, .int .i64 x.cas, .int .i64 x.used, .string x.value, .bool x.far, .int .i64 x.place.page, .int .i64 x.place.off] 58) := ⟨_, rfl⟩
                have hbV : Below wo2.heap.size wo2 w10 := by rw [hV0]; exact (Below.refl _ _).alloc (Nat.le_refl _) _
                have HVB : Hid (w10.heap[wo2.heap.size]? = some (.cells #[.string x.key, .int .i64 x.flags, .int .i64 x.till, .int .i64 x.cas, .int .i64 x.used, .string x.value, .bool x.far, .int .i64 x.place.page, .int .i64 x.place.off] 58 (0, 0))) := by show _ = _; rw [hV0]; exact blk_new wo2 _
                have HO10 := Lib.hid (owns_below HO9.out hbV)
                have HG10 := Lib.hid (HG9.out.trans (GrewB.of_below hbV HZ9.out))
                have HZ10 : Hid (wb.heap.size ≤ w10.heap.size) := Nat.le_trans HZ9.out hbV.size
                rw [← hV0]
                clear hV0 hbV c0 c1 c2 c3 c4 c5 c6 c7 c8 HO9 HG9 HZ9 HBW s8
                have HCEL : Hid (∀ wq, GrewB wb.heap.size w10 wq → wq.heap[wo2.heap.size]? = some (.cells #[.string x.key, .int .i64 x.flags, .int .i64 x.till, .int .i64 x.cas, .int .i64 x.used, .string x.value, .bool x.far, .int .i64 x.place.page, .int .i64 x.place.off] 58 (0, 0))) := fun wq h => h.same _ _ _ _ HVB.out (by decide)
                have hk1000 : k < 1000 := by omega
                have HL0 : Hid (L.length ≤ 500000) := by show _ ≤ _; have := HLL.out; omega
                obtain ⟨ks1, ks2⟩ := HIN.out.key
                have hvs := HIN.out.value
                obtain ⟨fl0, fl1⟩ := HIN.out.flags
                obtain ⟨ti0, ti1⟩ := HIN.out.till
                obtain ⟨ca0, ca1⟩ := HIN.out.cas
                obtain ⟨us0, us1⟩ := HIN.out.used
                have HLA : Hid (L.length + 10 + x.key.size ≤ 140737488355328) := by show _ ≤ _; have := HL0.out; omega
                have e0 : w10.cell? ⟨wo2.heap.size, 0, none⟩ = some (.string x.key) := by rw [cell_of_row w10 _ _ _ _ _ HVB.out]; rfl
                obtain ⟨N11, hN11⟩ : ∃ N, N = L ++ textOf (bl x.key) := ⟨_, rfl⟩
                have HN11 := Lib.hid hN11
                clear hN11
                go_wp2_with fail
                refine (with_is x.key (by omega) wb.heap.size L N11 HN11 va vc _ HO10.out HZ10.out HLA.out).mono ?_
                rintro e w11 ⟨va11, vc11, rfl, how11, hg11⟩
                have HO11 := Lib.hid how11
                have HG11 := Lib.hid (HG10.out.trans hg11)
                have HV11 := Lib.hid hg11
                have HZ11 : Hid (wb.heap.size ≤ w11.heap.size) := Nat.le_trans HZ10.out hg11.size
                have HLN11 : Hid (N11.length ≤ 500040) := by show _ ≤ _; have := HL0.out; have := textOf_len (bl x.key) (by rw [bl_length]; omega); rw [bl_length] at this; rw [HN11.out, List.length_append]; omega
                clear how11 hg11 e0
                have f12 : w11.cell? ⟨wo2.heap.size, 1, none⟩ = some (.int .i64 x.flags) := by rw [cell_of_row w11 _ _ _ _ _ (HCEL.out _ HV11.out)]; rfl
                have HLS12 : Hid (N11.length + (sev (x.flags).toNat).length ≤ 140737488355328) := by show _ ≤ _; have := HLN11.out; have := sev_le (n := (x.flags).toNat) (by omega); omega
                go_wp2_with fail
                obtain ⟨N12, hN12⟩ : ∃ N, N = N11 ++ sev (x.flags).toNat := ⟨_, rfl⟩
                have HN12 := Lib.hid hN12
                clear hN12
                refine (sev_is x.flags fl0 (by omega) _).mono ?_
                rintro e u12 ⟨v12, rfl, how12, hbb12⟩
                obtain ⟨ga12, gc12, rfl⟩ := own_slice how12
                have HSRC12 := Lib.hid how12
                have HOB12 := Lib.hid (owns_below HO11.out hbb12)
                have HGB12 := Lib.hid (HG11.out.trans (GrewB.of_below hbb12 HZ11.out))
                have HZB12 : Hid (wb.heap.size ≤ u12.heap.size) := Nat.le_trans HZ11.out hbb12.size
                have HVB12 := Lib.hid (HV11.out.trans (GrewB.of_below hbb12 HZ11.out))
                clear how12 hbb12
                go_wp2_with (at_builtin; go_must (refine list_append_src _ rfl (.tmp 98) (.tmp 101) rfl wb.heap.size _ N11 rfl HOB12.out _ _ rfl HSRC12.out (sev_pos _) N12 HN12 HLS12.out HZB12.out ?_))
                intro va12 vc12 w12 how12 hgr12
                have HO12 := Lib.hid how12
                have HG12 := Lib.hid (HGB12.out.trans hgr12)
                have HZ12 : Hid (wb.heap.size ≤ w12.heap.size) := Nat.le_trans HZB12.out hgr12.size
                have HV12 := Lib.hid (HVB12.out.trans hgr12)
                have HLN12 : Hid (N12.length ≤ 500040 + 10) := by show _ ≤ _; have := HLN11.out; have := sev_le (n := (x.flags).toNat) (by omega); rw [HN12.out, List.length_append]; omega
                clear how12 hgr12 f12
                have f13 : w12.cell? ⟨wo2.heap.size, 2, none⟩ = some (.int .i64 x.till) := by rw [cell_of_row w12 _ _ _ _ _ (HCEL.out _ HV12.out)]; rfl
                have HLS13 : Hid (N12.length + (sev (x.till).toNat).length ≤ 140737488355328) := by show _ ≤ _; have := HLN12.out; have := sev_le (n := (x.till).toNat) (by omega); omega
                go_wp2_with fail
                obtain ⟨N13, hN13⟩ : ∃ N, N = N12 ++ sev (x.till).toNat := ⟨_, rfl⟩
                have HN13 := Lib.hid hN13
                clear hN13
                refine (sev_is x.till ti0 ti1 _).mono ?_
                rintro e u13 ⟨v13, rfl, how13, hbb13⟩
                obtain ⟨ga13, gc13, rfl⟩ := own_slice how13
                have HSRC13 := Lib.hid how13
                have HOB13 := Lib.hid (owns_below HO12.out hbb13)
                have HGB13 := Lib.hid (HG12.out.trans (GrewB.of_below hbb13 HZ12.out))
                have HZB13 : Hid (wb.heap.size ≤ u13.heap.size) := Nat.le_trans HZ12.out hbb13.size
                have HVB13 := Lib.hid (HV12.out.trans (GrewB.of_below hbb13 HZ12.out))
                clear how13 hbb13
                go_wp2_with (at_builtin; go_must (refine list_append_src _ rfl (.tmp 103) (.tmp 106) rfl wb.heap.size _ N12 rfl HOB13.out _ _ rfl HSRC13.out (sev_pos _) N13 HN13 HLS13.out HZB13.out ?_))
                intro va13 vc13 w13 how13 hgr13
                have HO13 := Lib.hid how13
                have HG13 := Lib.hid (HGB13.out.trans hgr13)
                have HZ13 : Hid (wb.heap.size ≤ w13.heap.size) := Nat.le_trans HZB13.out hgr13.size
                have HV13 := Lib.hid (HVB13.out.trans hgr13)
                have HLN13 : Hid (N13.length ≤ 500050 + 10) := by show _ ≤ _; have := HLN12.out; have := sev_le (n := (x.till).toNat) (by omega); rw [HN13.out, List.length_append]; omega
                clear how13 hgr13 f13
                have f14 : w13.cell? ⟨wo2.heap.size, 3, none⟩ = some (.int .i64 x.cas) := by rw [cell_of_row w13 _ _ _ _ _ (HCEL.out _ HV13.out)]; rfl
                have HLS14 : Hid (N13.length + (sev (x.cas).toNat).length ≤ 140737488355328) := by show _ ≤ _; have := HLN13.out; have := sev_le (n := (x.cas).toNat) (by omega); omega
                go_wp2_with fail
                obtain ⟨N14, hN14⟩ : ∃ N, N = N13 ++ sev (x.cas).toNat := ⟨_, rfl⟩
                have HN14 := Lib.hid hN14
                clear hN14
                refine (sev_is x.cas (by omega) ca1 _).mono ?_
                rintro e u14 ⟨v14, rfl, how14, hbb14⟩
                obtain ⟨ga14, gc14, rfl⟩ := own_slice how14
                have HSRC14 := Lib.hid how14
                have HOB14 := Lib.hid (owns_below HO13.out hbb14)
                have HGB14 := Lib.hid (HG13.out.trans (GrewB.of_below hbb14 HZ13.out))
                have HZB14 : Hid (wb.heap.size ≤ u14.heap.size) := Nat.le_trans HZ13.out hbb14.size
                have HVB14 := Lib.hid (HV13.out.trans (GrewB.of_below hbb14 HZ13.out))
                clear how14 hbb14
                go_wp2_with (at_builtin; go_must (refine list_append_src _ rfl (.tmp 108) (.tmp 111) rfl wb.heap.size _ N13 rfl HOB14.out _ _ rfl HSRC14.out (sev_pos _) N14 HN14 HLS14.out HZB14.out ?_))
                intro va14 vc14 w14 how14 hgr14
                have HO14 := Lib.hid how14
                have HG14 := Lib.hid (HGB14.out.trans hgr14)
                have HZ14 : Hid (wb.heap.size ≤ w14.heap.size) := Nat.le_trans HZB14.out hgr14.size
                have HV14 := Lib.hid (HVB14.out.trans hgr14)
                have HLN14 : Hid (N14.length ≤ 500060 + 10) := by show _ ≤ _; have := HLN13.out; have := sev_le (n := (x.cas).toNat) (by omega); rw [HN14.out, List.length_append]; omega
                clear how14 hgr14 f14
                have f15 : w14.cell? ⟨wo2.heap.size, 4, none⟩ = some (.int .i64 x.used) := by rw [cell_of_row w14 _ _ _ _ _ (HCEL.out _ HV14.out)]; rfl
                have HLS15 : Hid (N14.length + (sev (x.used).toNat).length ≤ 140737488355328) := by show _ ≤ _; have := HLN14.out; have := sev_le (n := (x.used).toNat) (by omega); omega
                go_wp2_with fail
                obtain ⟨N15, hN15⟩ : ∃ N, N = N14 ++ sev (x.used).toNat := ⟨_, rfl⟩
                have HN15 := Lib.hid hN15
                clear hN15
                refine (sev_is x.used (by omega) us1 _).mono ?_
                rintro e u15 ⟨v15, rfl, how15, hbb15⟩
                obtain ⟨ga15, gc15, rfl⟩ := own_slice how15
                have HSRC15 := Lib.hid how15
                have HOB15 := Lib.hid (owns_below HO14.out hbb15)
                have HGB15 := Lib.hid (HG14.out.trans (GrewB.of_below hbb15 HZ14.out))
                have HZB15 : Hid (wb.heap.size ≤ u15.heap.size) := Nat.le_trans HZ14.out hbb15.size
                have HVB15 := Lib.hid (HV14.out.trans (GrewB.of_below hbb15 HZ14.out))
                clear how15 hbb15
                go_wp2_with (at_builtin; go_must (refine list_append_src _ rfl (.tmp 113) (.tmp 116) rfl wb.heap.size _ N14 rfl HOB15.out _ _ rfl HSRC15.out (sev_pos _) N15 HN15 HLS15.out HZB15.out ?_))
                intro va15 vc15 w15 how15 hgr15
                have HO15 := Lib.hid how15
                have HG15 := Lib.hid (HGB15.out.trans hgr15)
                have HZ15 : Hid (wb.heap.size ≤ w15.heap.size) := Nat.le_trans HZB15.out hgr15.size
                have HV15 := Lib.hid (HVB15.out.trans hgr15)
                have HLN15 : Hid (N15.length ≤ 500070 + 10) := by show _ ≤ _; have := HLN14.out; have := sev_le (n := (x.used).toNat) (by omega); rw [HN15.out, List.length_append]; omega
                clear how15 hgr15 f15
                have HPRE : Hid (N15 ++ farBytes x = L2 ++ itemsBytes (s.items.take (k + 1))) := by
                  show _ = _
                  rw [HS.out, itemBytes_eq, HN15.out, HN14.out, HN13.out, HN12.out, HN11.out, HEL2.out]
                  unfold fourOf sevs
                  simp
                have HBND : Hid ((N15 ++ farBytes x).length ≤ 6210 + 400 * (k + 1)) := by
                  show _ ≤ _
                  have h1 := HLL.out
                  have h2 := textOf_len (bl x.key) (by rw [bl_length]; omega)
                  have h5 := farBytes_len HIN.out
                  have q1 := sev_le (n := x.flags.toNat) (by omega)
                  have q2 := sev_le (n := x.till.toNat) (by omega)
                  have q3 := sev_le (n := x.cas.toNat) (by omega)
                  have q4 := sev_le (n := x.used.toNat) (by omega)
                  rw [bl_length] at h2
                  rw [HN15.out, HN14.out, HN13.out, HN12.out, HN11.out]
                  simp only [List.length_append]; omega
                obtain ⟨far, hfar⟩ : ∃ b, b = x.far := ⟨_, rfl⟩
                have HFAR := Lib.hid hfar
                have g6 : w15.cell? ⟨wo2.heap.size, 6, none⟩ = some (.bool far) := by rw [cell_of_row w15 _ _ _ _ _ (HCEL.out _ HV15.out), hfar]; rfl
                clear hfar
                cases far
                ·
                  have HFB : Hid (farBytes x = sev 0 ++ textOf (bl x.value)) := by show _ = _; unfold farBytes; rw [← HFAR.out]; rfl
                  obtain ⟨N16, hN16⟩ : ∃ N, N = N15 ++ sev 0 := ⟨_, rfl⟩
                  have HN16 := Lib.hid hN16
                  clear hN16
                  go_wp2_with (at_builtin; go_must (refine list_append_byte _ rfl (.tmp 135) (.tmp 136) rfl wb.heap.size _ N15 rfl (HO15.out.alloc _) w15.heap.size 0 (by decide) rfl (blk_new w15 _) N16 HN16 (by have := HLN15.out; omega) (by have := HZ15.out; simp; omega) ?_))
                  intro va16 vc16 w16 how16 hgr16
                  have HO16 := Lib.hid how16
                  have hba : Below w15.heap.size w15 (w15.alloc (.cells #[.int .u8 0] 5)) := (Below.refl _ _).alloc (Nat.le_refl _) _
                  have HG16 := Lib.hid ((HG15.out.trans (GrewB.of_below hba HZ15.out)).trans hgr16)
                  have HV16 := Lib.hid ((HV15.out.trans (GrewB.of_below hba HZ15.out)).trans hgr16)
                  have HZ16 : Hid (wb.heap.size ≤ w16.heap.size) := Nat.le_trans (Nat.le_trans HZ15.out hba.size) hgr16.size
                  have HLN16 : Hid (N16.length ≤ 500090) := by show _ ≤ _; have := HLN15.out; have := sev_le (n := 0) (by omega); rw [HN16.out, List.length_append]; omega
                  clear how16 hgr16 hba
                  have HLX : Hid (N16.length + 10 + x.value.size ≤ 140737488355328) := by show _ ≤ _; have := HLN16.out; omega
                  obtain ⟨N17, hN17⟩ : ∃ N, N = N16 ++ textOf (bl x.value) := ⟨_, rfl⟩
                  have HN17 := Lib.hid hN17
                  have g5 : w16.cell? ⟨wo2.heap.size, 5, none⟩ = some (.string x.value) := by rw [cell_of_row w16 _ _ _ _ _ (HCEL.out _ HV16.out)]; rfl
                  clear hN17 g6
                  go_wp2_with fail
                  refine (with_is x.value (by omega) wb.heap.size N16 N17 HN17 va16 vc16 _ HO16.out HZ16.out HLX.out).mono ?_
                  rintro e w17 ⟨va17, vc17, rfl, how17, hg17⟩
                  have HO17 := Lib.hid how17
                  have HG17 := Lib.hid (HG16.out.trans hg17)
                  have HZ17 : Hid (wb.heap.size ≤ w17.heap.size) := Nat.le_trans HZ16.out hg17.size
                  have HEF : Hid (N17 = L2 ++ itemsBytes (s.items.take (k + 1))) := by show _ = _; rw [HN17.out, HN16.out, ← HPRE.out, HFB.out]; simp
                  have HLF : Hid (N17.length ≤ 6210 + 400 * (k + 1)) := by show _ ≤ _; rw [HEF.out, ← HPRE.out]; exact HBND.out
                  clear how17 hg17 g5
                  go_wp2_with fail
                  go_roundw
                  case rel => first | exact ⟨k + 1, va17, vc17, N17, by omega, by go_num, rfl, HO17, HG17, HZ17, HEF, HLF⟩ | ((repeat apply Exists.intro); exact ⟨⟨k + 1, va17, vc17, N17, by omega, by go_num, rfl, HO17, HG17, HZ17, HEF, HLF⟩, rfl⟩)
                  case measure => simp [intOf]; omega
                ·
                  have HFB : Hid (farBytes x = sev 1 ++ sev x.place.page.toNat ++ sev x.place.off.toNat) := by show _ = _; unfold farBytes; rw [← HFAR.out]; rfl
                  obtain ⟨⟨pp0, pp1⟩, po0, po1⟩ := HIN.out.place HFAR.out.symm
                  obtain ⟨N16, hN16⟩ : ∃ N, N = N15 ++ sev 1 := ⟨_, rfl⟩
                  have HN16 := Lib.hid hN16
                  clear hN16
                  go_wp2_with (at_builtin; go_must (refine list_append_byte _ rfl (.tmp 120) (.tmp 121) rfl wb.heap.size _ N15 rfl (HO15.out.alloc _) w15.heap.size 1 (by decide) rfl (blk_new w15 _) N16 HN16 (by have := HLN15.out; omega) (by have := HZ15.out; simp; omega) ?_))
                  intro va16 vc16 w16 how16 hgr16
                  have HO16 := Lib.hid how16
                  have hba : Below w15.heap.size w15 (w15.alloc (.cells #[.int .u8 1] 5)) := (Below.refl _ _).alloc (Nat.le_refl _) _
                  have HG16 := Lib.hid ((HG15.out.trans (GrewB.of_below hba HZ15.out)).trans hgr16)
                  have HV16 := Lib.hid ((HV15.out.trans (GrewB.of_below hba HZ15.out)).trans hgr16)
                  have HZ16 : Hid (wb.heap.size ≤ w16.heap.size) := Nat.le_trans (Nat.le_trans HZ15.out hba.size) hgr16.size
                  have HLN16 : Hid (N16.length ≤ 500090) := by show _ ≤ _; have := HLN15.out; have := sev_le (n := 1) (by omega); rw [HN16.out, List.length_append]; omega
                  clear how16 hgr16 hba
                  clear g6
                  have f17 : w16.cell? ⟨wo2.heap.size, 7, none⟩ = some (.int .i64 x.place.page) := by rw [cell_of_row w16 _ _ _ _ _ (HCEL.out _ HV16.out)]; rfl
                  have HLS17 : Hid (N16.length + (sev (x.place.page).toNat).length ≤ 140737488355328) := by show _ ≤ _; have := HLN16.out; have := sev_le (n := (x.place.page).toNat) (by omega); omega
                  go_wp2_with fail
                  obtain ⟨N17, hN17⟩ : ∃ N, N = N16 ++ sev (x.place.page).toNat := ⟨_, rfl⟩
                  have HN17 := Lib.hid hN17
                  clear hN17
                  refine (sev_is x.place.page (by omega) pp1 _).mono ?_
                  rintro e u17 ⟨v17, rfl, how17, hbb17⟩
                  obtain ⟨ga17, gc17, rfl⟩ := own_slice how17
                  have HSRC17 := Lib.hid how17
                  have HOB17 := Lib.hid (owns_below HO16.out hbb17)
                  have HGB17 := Lib.hid (HG16.out.trans (GrewB.of_below hbb17 HZ16.out))
                  have HZB17 : Hid (wb.heap.size ≤ u17.heap.size) := Nat.le_trans HZ16.out hbb17.size
                  have HVB17 := Lib.hid (HV16.out.trans (GrewB.of_below hbb17 HZ16.out))
                  clear how17 hbb17
                  go_wp2_with (at_builtin; go_must (refine list_append_src _ rfl (.tmp 123) (.tmp 127) rfl wb.heap.size _ N16 rfl HOB17.out _ _ rfl HSRC17.out (sev_pos _) N17 HN17 HLS17.out HZB17.out ?_))
                  intro va17 vc17 w17 how17 hgr17
                  have HO17 := Lib.hid how17
                  have HG17 := Lib.hid (HGB17.out.trans hgr17)
                  have HZ17 : Hid (wb.heap.size ≤ w17.heap.size) := Nat.le_trans HZB17.out hgr17.size
                  have HV17 := Lib.hid (HVB17.out.trans hgr17)
                  have HLN17 : Hid (N17.length ≤ 500090 + 10) := by show _ ≤ _; have := HLN16.out; have := sev_le (n := (x.place.page).toNat) (by omega); rw [HN17.out, List.length_append]; omega
                  clear how17 hgr17 f17
                  have f18 : w17.cell? ⟨wo2.heap.size, 8, none⟩ = some (.int .i64 x.place.off) := by rw [cell_of_row w17 _ _ _ _ _ (HCEL.out _ HV17.out)]; rfl
                  have HLS18 : Hid (N17.length + (sev (x.place.off).toNat).length ≤ 140737488355328) := by show _ ≤ _; have := HLN17.out; have := sev_le (n := (x.place.off).toNat) (by omega); omega
                  go_wp2_with fail
                  obtain ⟨N18, hN18⟩ : ∃ N, N = N17 ++ sev (x.place.off).toNat := ⟨_, rfl⟩
                  have HN18 := Lib.hid hN18
                  clear hN18
                  refine (sev_is x.place.off po0 (by omega) _).mono ?_
                  rintro e u18 ⟨v18, rfl, how18, hbb18⟩
                  obtain ⟨ga18, gc18, rfl⟩ := own_slice how18
                  have HSRC18 := Lib.hid how18
                  have HOB18 := Lib.hid (owns_below HO17.out hbb18)
                  have HGB18 := Lib.hid (HG17.out.trans (GrewB.of_below hbb18 HZ17.out))
                  have HZB18 : Hid (wb.heap.size ≤ u18.heap.size) := Nat.le_trans HZ17.out hbb18.size
                  have HVB18 := Lib.hid (HV17.out.trans (GrewB.of_below hbb18 HZ17.out))
                  clear how18 hbb18
                  go_wp2_with (at_builtin; go_must (refine list_append_src _ rfl (.tmp 129) (.tmp 133) rfl wb.heap.size _ N17 rfl HOB18.out _ _ rfl HSRC18.out (sev_pos _) N18 HN18 HLS18.out HZB18.out ?_))
                  intro va18 vc18 w18 how18 hgr18
                  have HO18 := Lib.hid how18
                  have HG18 := Lib.hid (HGB18.out.trans hgr18)
                  have HZ18 : Hid (wb.heap.size ≤ w18.heap.size) := Nat.le_trans HZB18.out hgr18.size
                  have HV18 := Lib.hid (HVB18.out.trans hgr18)
                  have HLN18 : Hid (N18.length ≤ 500100 + 10) := by show _ ≤ _; have := HLN17.out; have := sev_le (n := (x.place.off).toNat) (by omega); rw [HN18.out, List.length_append]; omega
                  clear how18 hgr18 f18
                  have HEF : Hid (N18 = L2 ++ itemsBytes (s.items.take (k + 1))) := by show _ = _; rw [HN18.out, HN17.out, HN16.out, ← HPRE.out, HFB.out]; simp
                  have HLF : Hid (N18.length ≤ 6210 + 400 * (k + 1)) := by show _ ≤ _; rw [HEF.out, ← HPRE.out]; exact HBND.out
                  go_wp2_with fail
                  go_roundw
                  case rel => first | exact ⟨k + 1, va18, vc18, N18, by omega, by go_num, rfl, HO18, HG18, HZ18, HEF, HLF⟩ | ((repeat apply Exists.intro); exact ⟨⟨k + 1, va18, vc18, N18, by omega, by go_num, rfl, HO18, HG18, HZ18, HEF, HLF⟩, rfl⟩)
                  case measure => simp [intOf]; omega
              ·
                have hk2 : k = s.items.length := by omega
                have HEB : Hid (L = bodyOf s) := by
                  have h := HEL2.out
                  rw [hk2, List.take_length, HE4.out, HE1.out] at h
                  exact h
                have HLN : Hid (L.length + (sealOf L).length ≤ 140737488355328) := by show _ ≤ _; have := HLL.out; rw [seal_len]; omega
                have HLN2 : Hid (L.length ≤ 140737488355328) := by show _ ≤ _; have := HLN.out; omega
                obtain ⟨N, hN⟩ : ∃ N, N = L ++ sealOf L := ⟨_, rfl⟩
                have HN := Lib.hid hN
                have HBY := Lib.hid (own_bytes HO9.out)
                clear hN hk HEL2 HLL
                go_wp2_with fail
                refine (ref_SealOf L va vc _ HBY.out HLN2.out).mono ?_
                rintro e u2' ⟨v2, rfl, how2, hbb2⟩
                obtain ⟨ga2, gc2, rfl⟩ := own_slice how2
                have HSRC2 := Lib.hid how2
                have HOB2 := Lib.hid (owns_below HO9.out hbb2)
                have HZB2 : Hid (wb.heap.size ≤ u2'.heap.size) := Nat.le_trans HZ9.out hbb2.size
                have HBB2 : Hid (Below w.heap.size w u2') := HBW.out.trans (hbb2.mono HBW.out.size)
                clear how2 hbb2
                go_wp2_with (at_builtin; go_must (refine list_append_src _ rfl (.tmp 142) (.tmp 144) rfl wb.heap.size _ L rfl HOB2.out _ _ rfl HSRC2.out (by rw [seal_len]; omega) N HN HLN.out HZB2.out ?_))
                intro va3 vc3 w3 how3 hgr3
                have HO3 := Lib.hid how3
                have hbw3 : Below w.heap.size w w3 := HBB2.out.trans (hgr3.below.mono (by omega))
                clear how3 hgr3
                go_wp2_with fail
                go_ret2
                rw [HT.out]
                have hNN : N = bodyOf s ++ sealOf (bodyOf s) := by rw [HN.out, HEB.out]
                have hB := own_bytes HO3.out
                have hcap := own_cap HO3.out
                rw [hNN] at hB hcap
                exact ⟨va3, vc3, by rw [hNN]; rfl, hB, hcap.1, hcap.2, hbw3⟩
end Go.Proofs.YtbipegbgfdpaeaaDoor.D
