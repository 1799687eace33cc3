/-
 PROVED: 'Rows.StoreDoesCardSaid': store.Do answers what P3.6 says, at every argument. No condition; the tables that the call reads are tied to the program's text.
-/
import Derived.Test.YtbeegfkfpkfccaaGreatDoorYCEnd
import Derived.Test.YtbeegfkfpkfccaaGreatDoorYCDoorS
import Derived.Test.YtbeegfkfpkfccaaGreatDoorYCSameR
import Derived.Test.YtbeegfkfpkfccaaGreatDoorYRDoneOf
import Derived.Test.YtbeegfkfpkfccaaGreatDoorYRDone
namespace Go.Proofs.YtbeegfkfpkfccaaGreatDoor.storeDoes
open Go.ChangeShapes Go.WideShapes Go.ChangeAt Go.RowKit Go.Proofs.YtbeegfkfpkfccaaGreatDoor.D
theorem blk_new1 (w : World) (o1 o2 : Obj) : ((w.alloc o1).alloc o2).heap[w.heap.size + 1]? = some o2 := by
 have s1 : (w.alloc o1).heap.size = w.heap.size + 1 := by simp
 rw [← s1]; exact blk_new _ _
theorem box_two {w : World} {z1 z2 d1 d2 : Array Value} {T1 T2 : TypeId} : Below w.heap.size w ((((w.alloc (.cells z1 T1)).alloc (.cells z2 T2)).setRow w.heap.size d1).setRow (w.heap.size + 1) d2) ∧
  ((((w.alloc (.cells z1 T1)).alloc (.cells z2 T2)).setRow w.heap.size d1).setRow (w.heap.size + 1) d2).heap[w.heap.size]? = some (.cells d1 T1 (0, 0)) ∧
  ((((w.alloc (.cells z1 T1)).alloc (.cells z2 T2)).setRow w.heap.size d1).setRow (w.heap.size + 1) d2).heap[w.heap.size + 1]? = some (.cells d2 T2 (0, 0)) := by
 have e1 : ((w.alloc (.cells z1 T1)).alloc (.cells z2 T2)).heap[w.heap.size]? = some (.cells z1 T1 (0, 0)) := (Below.heap_alloc _ _ _ (by simp)).trans (blk_new _ _);have e2 : (((w.alloc (.cells z1 T1)).alloc (.cells z2 T2)).setRow w.heap.size d1).heap[w.heap.size + 1]? = some (.cells z2 T2 (0, 0)) := (setRow_other _ _ _ _ (by omega)).trans (blk_new1 _ _ _);refine ⟨?_, (setRow_other _ _ _ _ (by omega)).trans (setRow_heap _ _ _ _ _ _ e1), setRow_heap _ _ _ _ _ _ e2⟩;have hb : Below w.heap.size w ((w.alloc (.cells z1 T1)).alloc (.cells z2 T2)) := by go_grown
 exact (hb.trans (Below.setRow _ w.heap.size _ (Nat.le_refl _))).trans (Below.setRow _ (w.heap.size + 1) _ (by omega))
theorem no_hits (s : Store) (r : Req) (h : r.kind ≠ 1) : (doReq s r).2.hits = [] := by
 unfold doReq;rw [if_neg h]
 split
 ·unfold countReq
  simp only
  split
  ·rfl
  ·split
   ·rfl
   ·simp only; split <;> rfl
 ·split
  ·rfl
  ·split
   ·rfl
   ·split
    ·unfold goneReq
     simp only
     split
     ·rfl
     ·split <;> rfl
    ·have hst : ∀ (t : D.Store) (y : D.Item), (D.stored t y).2.hits = [] := fun t y => by unfold D.stored; simp only; split <;> rfl
     unfold setReq;simp only
     split
     ·split
      ·rfl
      ·exact hst _ _
     ·split
      ·split
       ·exact hst _ _
       ·rfl
      ·split
       ·split
        ·split
         ·rfl
         ·exact hst _ _
        ·rfl
       ·split
        ·split
         ·split
          ·rfl
          ·exact hst _ _
         ·rfl
        ·exact hst _ _
theorem got_few (ks : List ByteArray) : ∀ a : Store × List Hit, (ks.foldl got1 a).2.length ≤ a.2.length + ks.length := by
 induction ks with
 | nil => intro a; exact Nat.le_refl _
 | cons k ks ih =>
  intro a;rw [List.foldl_cons, List.length_cons]
  have h1 : (got1 a k).2.length ≤ a.2.length + 1 := by
   unfold got1
   split
   ·exact Nat.le_succ _
   ·split
    ·exact Nat.le_succ _
    ·simp
  have := ih (got1 a k);omega
theorem hits_few (s : Store) (r : Req) (hk : r.keys.length ≤ 140737488355328) : (doOf s r).2.1.hits.length ≤ 9223372036854775807 := by
 rcases do_cases s r with ⟨_, e2, _⟩ | ⟨hs, hf, _, _, e2⟩
 ·rw [e2]; exact Nat.zero_le _
 ·rw [e2]
  show (doReq s r).2.hits.length ≤ _
  by_cases h1 : r.kind = 1
  ·rw [do_get h1]
   have := got_few r.keys (s, []);show ((r.keys.foldl got1 (s, [])).2).length ≤ _;simp only [List.length_nil] at this;omega
  ·have : (doReq s r).2.hits = [] := no_hits s r h1
   rw [this]; exact Nat.zero_le _
theorem cells12 {w : World} {g T : Nat} {t : D.Store} {va fa : Option Addr} {vc fc : Nat} (h : w.heap[g]? = some (.cells (storeV t va vc fa fc) T (0, 0))) :
  w.cell? ⟨g, 0, none⟩ = some (.int .i64 t.clock) ∧ w.cell? ⟨g, 1, none⟩ = some (.int .i64 t.cas) ∧ w.cell? ⟨g, 2, none⟩ = some (.int .i64 t.uses) ∧ w.cell? ⟨g, 3, none⟩ = some (.int .i64 t.most) ∧ w.cell? ⟨g, 4, none⟩ = some (.int .i64 t.h0) ∧ w.cell? ⟨g, 5, none⟩ = some (.int .i64 t.h1) ∧
  w.cell? ⟨g, 6, none⟩ = some (.int .i64 t.h2) ∧ w.cell? ⟨g, 7, none⟩ = some (.int .i64 t.h3) ∧ w.cell? ⟨g, 8, none⟩ = some (.slice va t.items.length vc) ∧ w.cell? ⟨g, 9, none⟩ = some (.int .i64 t.flash.most) ∧ w.cell? ⟨g, 10, none⟩ = some (.int .i64 t.flash.next) ∧ w.cell? ⟨g, 11, none⟩ = some (.slice fa t.flash.pages.length fc) := by
 refine ⟨?_, ?_, ?_, ?_, ?_, ?_, ?_, ?_, ?_, ?_, ?_, ?_⟩ <;> (rw [cell_of_row w _ _ _ _ _ h]; rfl)
theorem do_law (s : Store) (r : Req) (a fa ka : Option Addr) (c fc kc : Nat) (w : World) (he : Env w) (h : RowsAt w a 9 ItemR s.items) (hf : RowsAt w fa 2 (PageR w) s.flash.pages) (hn : s.items.length * 88 ≤ 140737488355328) (hfn : s.flash.pages.length * 32 ≤ 140737488355328)
  (hK : RowsAt w ka 1 strR r.keys) (hkl : r.keys.length ≤ 140737488355328) (hks : r.key.size ≤ 140737488355328) : Calls Tryz.prog 11 #[.agg (storeV s a c fa fc), .agg #[.int .i64 r.kind, .string r.key, .slice ka r.keys.length kc, .int .i64 r.flags, .int .i64 r.exp, .int .i64 r.n, .string r.value, .bool r.quiet]] w (DoneOfEnd (doOf s r) w) := by
 refine (store_Do s a fa c fc w he h hf hn hfn r ka kc hK hkl hks).mono ?_;rintro e w' ⟨va', vc', fa', fc', vs, ha, hc, rfl, h3, h4, h5, h6⟩;refine ⟨va', vc', fa', fc', ha, hc, rfl, ?_, h5, h6⟩
 rcases do_cases s r with ⟨e1, e2, e3⟩ | ⟨_, _, _, e1, e2⟩
 ·simp only [e1] at h3 h4 ⊢
  exact ⟨RowsAt.nil _ _ _ _, RowsAt.nil _ _ _ _, Nat.zero_le _, Nat.zero_le _⟩
 ·rw [e2] at h3 h4 ⊢
  exact (e1.at h3 h4).at
theorem done_law (s : Store) (r : Req) (a fa ka : Option Addr) (c fc kc : Nat) (w : World) (h : RowsAt w a 9 ItemR s.items) (hf : RowsAt w fa 2 (PageR w) s.flash.pages) (hn : s.items.length * 88 ≤ 140737488355328) (hfn : s.flash.pages.length * 32 ≤ 140737488355328)
  (hK : RowsAt w ka 1 strR r.keys) (hkl : r.keys.length ≤ 140737488355328) (hks : r.key.size ≤ 140737488355328) : Calls Tryz.prog 12 #[.agg (storeV s a c fa fc), .agg #[.int .i64 r.kind, .string r.key, .slice ka r.keys.length kc, .int .i64 r.flags, .int .i64 r.exp, .int .i64 r.n, .string r.value, .bool r.quiet]] w (DoneOfEnd (doOf s r) w) :=
 ref_DoneOf s r (fun h1 h2 h3 base va fa ka vc fc kc w ho hb hk => ref_done s r ((ok_iff s).1 h1) (rok h2) h3 base va fa ka vc fc kc w ho hb hk) a fa ka c fc kc w h hf hn hfn hK hkl hks
set_option maxRecDepth 100000 in
set_option maxHeartbeats 4000000 in
theorem walk (s : Store) (r : Req) (a fa ka : Option Addr) (c fc kc : Nat) (w : World) (he : Env w) (h : RowsAt w a 9 ItemR s.items) (hf : RowsAt w fa 2 (PageR w) s.flash.pages) (hn : s.items.length * 88 ≤ 140737488355328) (hfn : s.flash.pages.length * 32 ≤ 140737488355328)
  (hK : RowsAt w ka 1 strR r.keys) (hkl : r.keys.length ≤ 140737488355328) (hks : r.key.size ≤ 140737488355328) :
  Calls Tryz.prog 3 #[.agg (storeV s a c fa fc), .agg #[.int .i64 r.kind, .string r.key, .slice ka r.keys.length kc, .int .i64 r.flags, .int .i64 r.exp, .int .i64 r.n, .string r.value, .bool r.quiet]] w fun e w' => e = .returned (.bool true) ∧ Below w.heap.size w w' := by
 have HI := hid h;have HF := hid hf;have HE := hid he;have HK := hid hK;obtain ⟨T, hT⟩ : ∃ T, T = doOf s r := ⟨_, rfl⟩;have HT := hid hT;have HHL : Hid (T.2.1.hits.length ≤ 9223372036854775807) := by show _ ≤ _; rw [hT]; exact hits_few s r hkl
 obtain ⟨W, hW, hb0, r2, r3⟩ := two_newR w (.cells (storeV s a c fa fc) 28) (.cells #[.int .i64 r.kind, .string r.key, .slice ka r.keys.length kc, .int .i64 r.flags, .int .i64 r.exp, .int .i64 r.n, .string r.value, .bool r.quiet] 31);have Rs := hid r2;have Rr := hid r3;have HB := hid hb0;clear h hf he hK hT r2 r3 hb0
 go_enter Tryz.func3, Tryz.ntmps3
 go_upto_region 1 with (fail);rw [← hW];clear hW
 go_wp2_with (refine wpList_load_row rfl 28 _ rfl w.heap.size rfl _ _ _ _ (Rs.out) Tryz.underlying28 rfl (by kernel_rfl) ?_)
 refine (ref_StoreCopy s a fa c fc W (HI.out.keep (Below.keeps HB.out) (fun _ _ h => h)) (HF.out.keep (Below.keeps HB.out) (PageR.keep (Below.keeps HB.out))) hn hfn).mono ?_;rintro e w1 ⟨va, vc, fva, fvc, vs, rfl, hi1, hf1, hbn⟩;have HIk := hid (own_items hi1 HI.out.itemB);have HPk := hid (hf1.rows HF.out.pageB);clear hi1 hf1;replace Rs := hid ((hbn.block w.heap.size (blt Rs.out)).trans Rs.out);replace Rr := hid ((hbn.block (w.heap.size + 1) (blt Rr.out)).trans Rr.out);replace HB := hid (HB.out.trans (hbn.mono HB.out.size));clear hbn;go_upto_region 2 with (refine wpList_store_row rfl 28 _ _ rfl w1.heap.size _ rfl rfl _ _ (blk_new _ _) storeSize rfl (store_one _ _ _ _ _) ?_);obtain ⟨W2, hW2⟩ : ∃ W2, W2 = (w1.alloc (.cells #[.int .i64 0, .int .i64 0, .int .i64 0, .int .i64 0, .int .i64 0, .int .i64 0, .int .i64 0, .int .i64 0, .slice none 0 0, .int .i64 0, .int .i64 0, .slice none 0 0] 28)).setRow w1.heap.size (storeV s va vc fva fvc) := ⟨_, rfl⟩;have hbn : Below w1.heap.size w1 W2 := by rw [hW2]; exact (below_new rfl).trans (Below.setRow _ _ _ (Nat.le_refl _))
 obtain ⟨bk, hbk⟩ : ∃ b, b = w1.heap.size := ⟨_, rfl⟩;have Rk : Hid (W2.heap[bk]? = some (.cells (storeV s va vc fva fvc) 28 (0, 0))) := by show _ = _; rw [hW2, hbk]; exact setRow_heap _ _ _ _ _ _ (blk_new _ _)
 rw [← hW2, ← hbk];clear hW2 hbk;replace Rs := hid ((hbn.block w.heap.size (blt Rs.out)).trans Rs.out);replace Rr := hid ((hbn.block (w.heap.size + 1) (blt Rr.out)).trans Rr.out);replace HIk := hid (HIk.out.keep (Below.keeps hbn) (fun _ _ h => h));replace HPk := hid (HPk.out.keep (Below.keeps hbn) (PageR.keep (Below.keeps hbn)));replace HB := hid (HB.out.trans (hbn.mono HB.out.size));clear hbn
 go_wp2_with (first
  | refine wpList_load_row rfl 28 _ rfl bk rfl _ _ _ _ (Rk.out) Tryz.underlying28 rfl (by kernel_rfl) ?_
  | refine wpList_load_row rfl 31 _ rfl (w.heap.size + 1) rfl _ _ _ _ (Rr.out) Tryz.underlying31 rfl (by kernel_rfl) ?_)
 refine (do_law s r va fva ka vc fvc kc W2 (HE.out.on HB.out) HIk.out HPk.out hn hfn (HK.out.keep (Below.keeps HB.out) (fun _ _ h => h)) hkl hks).mono ?_;rw [← HT.out];rintro e w3 ⟨va3, vc3, fa3, fc3, ha3, hc3, rfl, hst3, hh3, hbn⟩;have HS3 := hid hst3;have HH3 := hid hh3;clear hst3 hh3;replace Rs := hid ((hbn.block w.heap.size (blt Rs.out)).trans Rs.out);replace Rr := hid ((hbn.block (w.heap.size + 1) (blt Rr.out)).trans Rr.out);replace Rk := hid (bkp hbn Rk.out);replace HIk := hid (HIk.out.keep (Below.keeps hbn) (fun _ _ h => h));replace HPk := hid (HPk.out.keep (Below.keeps hbn) (PageR.keep (Below.keeps hbn)));replace HB := hid (HB.out.trans (hbn.mono HB.out.size));clear hbn
 go_upto_region 3 with (first
  | refine wpList_store_row rfl 28 _ _ rfl w3.heap.size _ rfl rfl _ _ ((Below.heap_alloc _ _ _ (by simp)).trans (blk_new _ _)) storeSize rfl (store_one _ _ _ _ _) ?_
  | refine wpList_store_row rfl 35 _ _ rfl (w3.heap.size + 1) _ rfl rfl _ _ ((setRow_other _ _ _ _ (by omega)).trans (blk_new1 _ _ _)) replySize rfl (reply_one _ _ _) ?_)
 obtain ⟨W4, hW4⟩ : ∃ W, W = (((w3.alloc (.cells #[.int .i64 0, .int .i64 0, .int .i64 0, .int .i64 0, .int .i64 0, .int .i64 0, .int .i64 0, .int .i64 0, .slice none 0 0, .int .i64 0, .int .i64 0, .slice none 0 0] 28)).alloc (.cells #[.int .i64 0, .int .i64 0, .slice none 0 0] 35)).setRow w3.heap.size (storeV T.1 va3 vc3 fa3 fc3)).setRow (w3.heap.size + 1) (replyCells T.2.1 ha3 hc3) := ⟨_, rfl⟩;have hbn : Below w3.heap.size w3 W4 := by rw [hW4]; exact box_two.1
 have Ra : Hid (W4.heap[w3.heap.size]? = some (.cells (storeV T.1 va3 vc3 fa3 fc3) 28 (0, 0))) := by show _ = _; rw [hW4]; exact box_two.2.1
 have Rx : Hid (W4.heap[w3.heap.size + 1]? = some (.cells (replyCells T.2.1 ha3 hc3) 35 (0, 0))) := by show _ = _; rw [hW4]; exact box_two.2.2
 rw [← hW4];obtain ⟨ba, hba⟩ : ∃ b, b = w3.heap.size := ⟨_, rfl⟩;obtain ⟨bx, hbx⟩ : ∃ b, b = w3.heap.size + 1 := ⟨_, rfl⟩;rw [← hbx] at Rx ⊢;rw [← hba] at Ra ⊢;clear hW4 hba hbx;replace Rs := hid ((hbn.block w.heap.size (blt Rs.out)).trans Rs.out);replace Rr := hid ((hbn.block (w.heap.size + 1) (blt Rr.out)).trans Rr.out);replace Rk := hid (bkp hbn Rk.out);replace HIk := hid (HIk.out.keep (Below.keeps hbn) (fun _ _ h => h));replace HPk := hid (HPk.out.keep (Below.keeps hbn) (PageR.keep (Below.keeps hbn)));replace HS3 := hid (HS3.out.keep hbn);replace HH3 := hid (HH3.out.keep (Below.keeps hbn) (fun _ _ h => h));replace HB := hid (HB.out.trans (hbn.mono HB.out.size));clear hbn
 go_wp2_with (first
  | refine wpList_load_row rfl 28 _ rfl w.heap.size rfl _ _ _ _ (Rs.out) Tryz.underlying28 rfl (by kernel_rfl) ?_
  | refine wpList_load_row rfl 31 _ rfl (w.heap.size + 1) rfl _ _ _ _ (Rr.out) Tryz.underlying31 rfl (by kernel_rfl) ?_)
 refine (done_law s r a fa ka c fc kc W4 (HI.out.keep (Below.keeps HB.out) (fun _ _ h => h)) (HF.out.keep (Below.keeps HB.out) (PageR.keep (Below.keeps HB.out))) hn hfn (HK.out.keep (Below.keeps HB.out) (fun _ _ h => h)) hkl hks).mono ?_;rw [← HT.out];rintro e w5 ⟨va5, vc5, fa5, fc5, ha5, hc5, rfl, hst5, hh5, hbn⟩;have HS5 := hid hst5;have HH5 := hid hh5;clear hst5 hh5;replace Rs := hid ((hbn.block w.heap.size (blt Rs.out)).trans Rs.out);replace Rr := hid ((hbn.block (w.heap.size + 1) (blt Rr.out)).trans Rr.out);replace Rk := hid (bkp hbn Rk.out);replace Ra := hid (bkp hbn Ra.out);replace Rx := hid (bkp hbn Rx.out);replace HIk := hid (HIk.out.keep (Below.keeps hbn) (fun _ _ h => h));replace HPk := hid (HPk.out.keep (Below.keeps hbn) (PageR.keep (Below.keeps hbn)));replace HS3 := hid (HS3.out.keep hbn);replace HH3 := hid (HH3.out.keep (Below.keeps hbn) (fun _ _ h => h));replace HB := hid (HB.out.trans (hbn.mono HB.out.size));clear hbn
 go_upto_region 4 with (first
  | refine wpList_store_row rfl 28 _ _ rfl w5.heap.size _ rfl rfl _ _ ((Below.heap_alloc _ _ _ (by simp)).trans (blk_new _ _)) storeSize rfl (store_one _ _ _ _ _) ?_
  | refine wpList_store_row rfl 35 _ _ rfl (w5.heap.size + 1) _ rfl rfl _ _ ((setRow_other _ _ _ _ (by omega)).trans (blk_new1 _ _ _)) replySize rfl (reply_one _ _ _) ?_)
 obtain ⟨W6, hW6⟩ : ∃ W, W = (((w5.alloc (.cells #[.int .i64 0, .int .i64 0, .int .i64 0, .int .i64 0, .int .i64 0, .int .i64 0, .int .i64 0, .int .i64 0, .slice none 0 0, .int .i64 0, .int .i64 0, .slice none 0 0] 28)).alloc (.cells #[.int .i64 0, .int .i64 0, .slice none 0 0] 35)).setRow w5.heap.size (storeV T.1 va5 vc5 fa5 fc5)).setRow (w5.heap.size + 1) (replyCells T.2.1 ha5 hc5) := ⟨_, rfl⟩;have hbn : Below w5.heap.size w5 W6 := by rw [hW6]; exact box_two.1
 have Rb : Hid (W6.heap[w5.heap.size]? = some (.cells (storeV T.1 va5 vc5 fa5 fc5) 28 (0, 0))) := by show _ = _; rw [hW6]; exact box_two.2.1
 have Ry : Hid (W6.heap[w5.heap.size + 1]? = some (.cells (replyCells T.2.1 ha5 hc5) 35 (0, 0))) := by show _ = _; rw [hW6]; exact box_two.2.2
 rw [← hW6];obtain ⟨bb, hbb⟩ : ∃ b, b = w5.heap.size := ⟨_, rfl⟩;obtain ⟨bq, hby⟩ : ∃ b, b = w5.heap.size + 1 := ⟨_, rfl⟩;rw [← hby] at Ry ⊢;rw [← hbb] at Rb ⊢
 clear hW6 hbb hby
 replace Rs := hid ((hbn.block w.heap.size (blt Rs.out)).trans Rs.out);replace Rr := hid ((hbn.block (w.heap.size + 1) (blt Rr.out)).trans Rr.out);replace Rk := hid (bkp hbn Rk.out);replace Ra := hid (bkp hbn Ra.out);replace Rx := hid (bkp hbn Rx.out);replace HIk := hid (HIk.out.keep (Below.keeps hbn) (fun _ _ h => h));replace HPk := hid (HPk.out.keep (Below.keeps hbn) (PageR.keep (Below.keeps hbn)));replace HS3 := hid (HS3.out.keep hbn);replace HH3 := hid (HH3.out.keep (Below.keeps hbn) (fun _ _ h => h));replace HS5 := hid (HS5.out.keep hbn);replace HH5 := hid (HH5.out.keep (Below.keeps hbn) (fun _ _ h => h));replace HB := hid (HB.out.trans (hbn.mono HB.out.size));clear hbn;obtain ⟨⟨t, x, n⟩, hTT⟩ : ∃ q, q = T := ⟨_, rfl⟩;subst hTT;have hnn : (n == n) = true := by simp
 have hil := HS3.out.len;have hpl := HS3.out.plen;have hhl : x.hits.length ≤ 9223372036854775807 := HHL.out;have x0 : W6.cell? ⟨bx, 0, none⟩ = some (.int .i64 x.kind) := cor Rx.out rfl;have x1 : W6.cell? ⟨bx, 1, none⟩ = some (.int .i64 x.n) := cor Rx.out rfl;have x2 : W6.cell? ⟨bx, 2, none⟩ = some (.slice ha3 x.hits.length hc3) := cor Rx.out rfl;have y0 : W6.cell? ⟨bq, 0, none⟩ = some (.int .i64 x.kind) := cor Ry.out rfl;have y1 : W6.cell? ⟨bq, 1, none⟩ = some (.int .i64 x.n) := cor Ry.out rfl;have y2 : W6.cell? ⟨bq, 2, none⟩ = some (.slice ha5 x.hits.length hc5) := cor Ry.out rfl
 go_wp2_with fail
 refine (same_reply x ha3 ha5 hc3 hc5 W6 HH3.out HH5.out hhl).mono ?_;rintro e w7 ⟨rfl, hbn⟩;clear x0 x1 x2 y0 y1 y2;replace Rs := hid ((hbn.block w.heap.size (blt Rs.out)).trans Rs.out);replace Rr := hid ((hbn.block (w.heap.size + 1) (blt Rr.out)).trans Rr.out);replace Rk := hid (bkp hbn Rk.out);replace Ra := hid (bkp hbn Ra.out);replace Rx := hid (bkp hbn Rx.out);replace Rb := hid (bkp hbn Rb.out);replace Ry := hid (bkp hbn Ry.out);replace HIk := hid (HIk.out.keep (Below.keeps hbn) (fun _ _ h => h));replace HPk := hid (HPk.out.keep (Below.keeps hbn) (PageR.keep (Below.keeps hbn)));replace HS3 := hid (HS3.out.keep hbn);replace HH3 := hid (HH3.out.keep (Below.keeps hbn) (fun _ _ h => h));replace HS5 := hid (HS5.out.keep hbn);replace HH5 := hid (HH5.out.keep (Below.keeps hbn) (fun _ _ h => h));replace HB := hid (HB.out.trans (hbn.mono HB.out.size));clear hbn;obtain ⟨p0, p1, p2, p3, p4, p5, p6, p7, p8, p9, p10, p11⟩ := cells12 Ra.out;obtain ⟨q0, q1, q2, q3, q4, q5, q6, q7, q8, q9, q10, q11⟩ := cells12 Rb.out
 go_wp2_with fail
 refine (same_store t va3 va5 fa3 fa5 vc3 vc5 fc3 fc5 w7 HS3.out.items HS5.out.items HS3.out.pages HS5.out.pages (by omega) (by omega)).mono ?_;rintro e w8 ⟨rfl, hbn⟩;clear p0 p1 p2 p3 p4 p5 p6 p7 p8 p9 p10 p11 q0 q1 q2 q3 q4 q5 q6 q7 q8 q9 q10 q11;replace Rs := hid ((hbn.block w.heap.size (blt Rs.out)).trans Rs.out);replace Rr := hid ((hbn.block (w.heap.size + 1) (blt Rr.out)).trans Rr.out);replace Rk := hid (bkp hbn Rk.out);replace Ra := hid (bkp hbn Ra.out);replace Rx := hid (bkp hbn Rx.out);replace Rb := hid (bkp hbn Rb.out);replace Ry := hid (bkp hbn Ry.out);replace HIk := hid (HIk.out.keep (Below.keeps hbn) (fun _ _ h => h));replace HPk := hid (HPk.out.keep (Below.keeps hbn) (PageR.keep (Below.keeps hbn)));replace HS3 := hid (HS3.out.keep hbn);replace HH3 := hid (HH3.out.keep (Below.keeps hbn) (fun _ _ h => h));replace HS5 := hid (HS5.out.keep hbn);replace HH5 := hid (HH5.out.keep (Below.keeps hbn) (fun _ _ h => h));replace HB := hid (HB.out.trans (hbn.mono HB.out.size));clear hbn;obtain ⟨p0, p1, p2, p3, p4, p5, p6, p7, p8, p9, p10, p11⟩ := cells12 Rk.out;obtain ⟨q0, q1, q2, q3, q4, q5, q6, q7, q8, q9, q10, q11⟩ := cells12 Rs.out
 go_wp2_with fail
 refine (same_store s va a fva fa vc c fvc fc w8 HIk.out (HI.out.keep (Below.keeps HB.out) (fun _ _ h => h)) HPk.out (HF.out.keep (Below.keeps HB.out) (PageR.keep (Below.keeps HB.out))) (by omega) (by omega)).mono ?_;rintro e w9 ⟨rfl, hbn⟩
 go_wp2_with fail
 go_ret;exact ⟨rfl, HB.out.trans (hbn.mono HB.out.size)⟩
set_option maxRecDepth 100000 in
theorem enters {H : Type} {enc : TypeId × Value → H} {W : World} {base : Nat} {args : Array Value} {ds : List (DataW H)} {p : List MemPlace}
  (hval : ∀ (j : Nat) t v, Tryz.f3.params[j]? = some t → args[j]? = some v → Value.okWide Tryz.prog W .any base t v)
  (hA : DataW.TrodAll enc Tryz.prog W 0 (fun _ => true) true Tryz.f3.params.toList args.toList ds p) (hsz : ∀ m ∈ DataW.weightsEach Tryz.prog Tryz.f3.params.toList ds, m ≤ reachBytes) (hL : laidMetH Tryz.prog Rows.storeDoesRow.laid W) :
  Calls Tryz.prog 3 args W fun e W' => e = .returned (.bool true) ∧ Below W.heap.size W W' := by
 rw [Tryz.params3] at hA hval hsz;obtain ⟨v0, vs0, d0, ds0, p0, q0, hargs, rfl, rfl, h0, r0⟩ := trodAll_cons hA;obtain ⟨v1, vs1, d1, ds1, p1, q1, hargs1, rfl, rfl, h1', r1⟩ := trodAll_cons r0;obtain ⟨rfl, rfl, rfl⟩ := trodAll_nil r1;obtain rfl : args = #[v0, v1] := by cases args; simp_all
 obtain ⟨cs, rfl, hcs⟩ := okWide_struct Tryz.underlying28 (hval 0 28 v0 rfl rfl);obtain ⟨ds, rfl, hds⟩ := okWide_struct Tryz.underlying31 (hval 1 31 v1 rfl rfl);obtain ⟨fuel, hf⟩ := h0;obtain ⟨fuel1, hf1⟩ := h1';obtain ⟨s, _, _, _, _, _, _, _, _, a, c, fs, he, h1, h2, h3, _, _, fa, fc, hfs, h4, h5, h6⟩ := read_store hf (Wt.all hsz 0 rfl rfl)
 obtain rfl : cs = storeV s a c fa fc := by
  have : cs.toList = _ := he;rw [hfs] at this
  cases cs; simp_all [storeV]
 obtain ⟨r, _, _, _, _, hks, _, ka, kc, hre, g1, g2, g3⟩ := read_req hf1 (Wt.all hsz 1 rfl rfl)
 obtain rfl : ds = #[.int .i64 r.kind, .string r.key, .slice ka r.keys.length kc, .int .i64 r.flags, .int .i64 r.exp, .int .i64 r.n, .string r.value, .bool r.quiet] := by
  have : ds.toList = _ := hre
  cases ds; simp_all
 have : reachBytes = 140737488351232 := rfl;exact walk s r a fa ka c fc kc W (env_of hL) h3 h6 (by omega) (by omega) g3 (by omega) (by omega)
set_option maxRecDepth 100000 in
theorem contract {H : Type} {enc : TypeId × Value → H} {W : World} {base : Nat} {args : Array Value} {ds gs : List (DataW H)} {before : List MemPlace}
  (hval0 : ∀ (j : Nat) t v, Tryz.f3.params[j]? = some t → args[j]? = some v → Value.okWide Tryz.prog W .any base t v)
  (hW : DataW.Whole enc Tryz.prog Tryz.f3.params.toList Rows.storeDoesSpec.vars false W args.toList ds gs before)
  (hsz0 : (DataW.weightsEach Tryz.prog (Tryz.f3.params.toList ++ []) (ds ++ gs)).all (· ≤ reachBytes) = true) (hL : laidMetH Tryz.prog Rows.storeDoesRow.laid W) :
  Calls Tryz.prog 3 args W fun e W' => ∃ v, e = .returned v ∧ Rows.storeDoesSpec.post enc Tryz.prog Tryz.f3 false true false false W args v W' := by
 have hval : ∀ (j : Nat) t v, Tryz.f3.params[j]? = some t → args[j]? = some v → Value.okWide Tryz.prog W .any base t v := hval0;have hW' := hW;obtain ⟨p, q, hA0, hV, rfl, hfz, hnd⟩ := hW;have hA : DataW.TrodAll enc Tryz.prog W 0 (fun _ => true) true Tryz.f3.params.toList args.toList ds p := hA0;obtain ⟨rfl, rfl⟩ := trodVars_none hV
 have hsz : ∀ m ∈ DataW.weightsEach Tryz.prog Tryz.f3.params.toList ds, m ≤ reachBytes := by
  have h0 := hsz0;rw [List.append_nil, List.append_nil] at h0;intro m hm
  simpa using List.all_eq_true.1 h0 m hm
 have hds : Rows.storeDoesSpec.fn H (ds ++ []) = { results := [.lit (.bool true)], args := ds } := by
  have hA1 := hA;rw [Tryz.params3] at hA1;obtain ⟨v0, vs0, d0, ds0, p0, q0, _, rfl, rfl, h0, r0⟩ := trodAll_cons hA1;obtain ⟨v1, vs1, d1, ds1, p1, q1, _, rfl, rfl, h1, r1⟩ := trodAll_cons r0;obtain ⟨_, rfl, rfl⟩ := trodAll_nil r1
  rfl
 refine (enters hval hA hsz hL).mono fun e W' ⟨he, hb⟩ => ⟨_, he, D.law_post rfl rfl hds (by kernel_rfl) hW' hb⟩
theorem laid_met (os : Os) : laidMet Tryz.prog Rows.storeDoesRow.laid ((D.laidWorldS os).forCall (fun _ _ => 0) ⟨#[], #[.agg #[.int .i64 0, .int .i64 0, .int .i64 0, .int .i64 0, .int .i64 0, .int .i64 0, .int .i64 0, .int .i64 0, .slice none 0 0, .int .i64 0, .int .i64 0, .slice none 0 0], .agg #[.int .i64 0, .string ByteArray.empty, .slice none 0 0, .int .i64 0, .int .i64 0, .int .i64 0, .string ByteArray.empty, .bool false]], []⟩).memory :=
 laidMet_of_run' 12 (by kernel_rfl) (by kernel_rfl)
theorem reads (os : Os) {H : Type} (enc : TypeId × Value → H) : ∃ places, DataW.whole enc Tryz.prog ((D.laidWorldS os).forCall (fun _ _ => 0) ⟨#[], #[.agg #[.int .i64 0, .int .i64 0, .int .i64 0, .int .i64 0, .int .i64 0, .int .i64 0, .int .i64 0, .int .i64 0, .slice none 0 0, .int .i64 0, .int .i64 0, .slice none 0 0], .agg #[.int .i64 0, .string ByteArray.empty, .slice none 0 0, .int .i64 0, .int .i64 0, .int .i64 0, .string ByteArray.empty, .bool false]], []⟩).memory Tryz.f3.params.toList Rows.storeDoesSpec.vars false (#[.agg #[.int .i64 0, .int .i64 0, .int .i64 0, .int .i64 0, .int .i64 0, .int .i64 0, .int .i64 0, .int .i64 0, .slice none 0 0, .int .i64 0, .int .i64 0, .slice none 0 0], .agg #[.int .i64 0, .string ByteArray.empty, .slice none 0 0, .int .i64 0, .int .i64 0, .int .i64 0, .string ByteArray.empty, .bool false]] : Array Value).toList 12 = some ([.agg [.lit (.int .i64 0), .lit (.int .i64 0), .lit (.int .i64 0), .lit (.int .i64 0), .agg [.lit (.int .i64 0), .lit (.int .i64 0), .lit (.int .i64 0), .lit (.int .i64 0)], .nil, .agg [.lit (.int .i64 0), .lit (.int .i64 0), .nil]], .agg [.lit (.int .i64 0), .lit (.string []), .nil, .lit (.int .i64 0), .lit (.int .i64 0), .lit (.int .i64 0), .lit (.string []), .lit (.bool false)]], [], places) :=
 ⟨[], by kernel_rfl⟩
set_option maxRecDepth 100000 in
theorem lifted (os : Os) (started : os.Started) (H : Type) (enc : TypeId × Value → H) (F : Stop.Interp) :
  ReturnsInHanded {} Tryz.checked os 3 .any ((OpenSpec.ofChange Rows.storeDoesSpec).preRow enc Tryz.prog Tryz.f3 Rows.storeDoesRow.domain false Rows.storeDoesRow.laid) (((OpenSpec.ofChange Rows.storeDoesSpec).at F).post enc Tryz.prog Tryz.f3 false true false false) := by
 obtain ⟨places, hx⟩ := reads os enc
 refine returnsInHanded_of_row (C := Tryz.checked) (s := OpenSpec.ofChange Rows.storeDoesSpec) D.own started (by kernel_rfl) Tryz.func3
  (witness_row_at (enc := enc) (C := Tryz.checked) false (D.laidWorldS os) #[.agg #[.int .i64 0, .int .i64 0, .int .i64 0, .int .i64 0, .int .i64 0, .int .i64 0, .int .i64 0, .int .i64 0, .slice none 0 0, .int .i64 0, .int .i64 0, .slice none 0 0], .agg #[.int .i64 0, .string ByteArray.empty, .slice none 0 0, .int .i64 0, .int .i64 0, .int .i64 0, .string ByteArray.empty, .bool false]] rfl (by kernel_rfl) (by kernel_rfl) (by kernel_rfl)
   (OpenSpec.preRow_of_cond 12 hx (by kernel_rfl) (fun k hk => by cases hk) (by kernel_rfl) (laid_met os))) ?_
 intro W base args ds gs before hval hW _ _ hsz hL _ _;exact contract hval hW hsz hL
theorem said : Rows.StoreDoesSaid :=
 OpenClaim.holds_of_cond 3 Tryz.f3 rfl rfl rfl rfl rfl rfl rfl ⟨rfl, rfl, rfl, rfl, rfl⟩ rfl rfl rfl rfl rfl (by kernel_rfl) Tryz.func3 (by kernel_rfl)
  (of_decide_eq_true (by kernel_rfl)) (by unfold Func.isWrapper; first | (rw [if_pos (by decide +kernel)]; kernel_rfl) | (rw [if_neg (by decide +kernel)]; exact ⟨rfl, rfl⟩))
  (fun os started H enc _ F => by rw [OpenClaim.pre_eq_preRow]; exact lifted os started H enc F)
theorem plain (f : FuncId) (fn : Func) (hf : Tryz.pinned.checked.prog.funcNamed "dovecote/dovecotelaw.StoreDoes" = some f) (hfn : Tryz.pinned.checked.prog.funcs[f]? = some fn) :
  true = Tryz.pinned.checked.prog.looks [] ∧ ∀ (j : Nat) t, fn.params[j]? = some t → Tryz.pinned.checked.prog.wantsStandIn t = false := by
 obtain rfl : f = 3 := Option.some.inj ((show Tryz.prog.funcNamed "dovecote/dovecotelaw.StoreDoes" = some 3 by kernel_rfl).symm.trans hf) |>.symm;obtain rfl : fn = Tryz.f3 := (Option.some.inj (Tryz.func3.symm.trans hfn)).symm;refine ⟨by kernel_rfl, fun j t ht => ?_⟩;rw [Tryz.params3] at ht;have k0 : Tryz.pinned.checked.prog.wantsStandIn 28 = false := by kernel_rfl
 have k1 : Tryz.pinned.checked.prog.wantsStandIn 31 = false := by kernel_rfl
 have hh : t = 28 ∨ t = 31 := by simpa using Array.mem_of_getElem? ht
 rcases hh with rfl | rfl
 ·exact k0
 ·exact k1
theorem card : Rows.StoreDoesCardSaid :=
 Claim7.holds_tied_plain_at .later [] _ _ _ _ said (fun _ h => by cases h) (by kernel_rfl) (fun _ h => by cases h) storeDoes_row_tie rfl ⟨rfl, rfl⟩ (by kernel_rfl) rfl plain (by kernel_rfl)
end Go.Proofs.YtbeegfkfpkfccaaGreatDoor.storeDoes
