/-
 Contract: store.Tick: time passes. (Printed by gen_halves.py.) Condition: the table of chunks holds its four numbers; the store takes at most 2^47 bytes.
-/
import Derived.Test.YtbeegfkfpkfccaaGreatDoorYOwn
import Derived.Test.YtbeegfkfpkfccaaGreatDoorYCSCheck
namespace Go.Proofs.YtbeegfkfpkfccaaGreatDoor.D
open Go.RowKit
def Store.tick (s : Store) (n : Int) : Store × Int :=
 if s.ok = false then (Store.zero, 8) else if n < 0 ∨ 1000 < n ∨ 1099511627776 < s.clock + n then (Store.zero, 2) else ({ s with clock := s.clock + n }, 0)
theorem pages_few {f : Flash} (h : f.ok = true) : f.pages.length ≤ 20 := by
 have hp : (f.pages.length : Int) ≤ f.most ∧ f.most ≤ 20 := by
  unfold Flash.ok at h
  simp only [Bool.and_eq_true, decide_eq_true_eq] at h
  omega
 omega
abbrev storeZt : Array Value := #[.int .i64 0, .int .i64 0, .int .i64 0, .int .i64 0, .int .i64 0, .int .i64 0, .int .i64 0, .int .i64 0, .slice none 0 0, .int .i64 0, .int .i64 0, .slice none 0 0]
def OutStore (t : Store) (n : Int) (w : World) (e : Ending) (w' : World) : Prop :=
 ∃ va vc fa fc, e = .returned (.tuple #[.agg (storeV t va vc fa fc), .int .i64 n]) ∧ StOwn w.heap.size w' t va vc fa fc ∧ Below w.heap.size w w'
theorem results_row_int {fn : Func} {p q : Tmp} {ty : TypeId} (h : fn.results = #[.cell p ty, .tmp q]) (tmps : Array Value) (w : World) (g : Nat) (cs : Array Value) (v : Value)
  (hp : tmps.getD p undef = .pointer (some ⟨g, 0, none⟩)) (hq : tmps.getD q undef = v) (hr : (loadVar ty ⟨g, 0, none⟩).run Tryz.prog w = .ok (.agg cs) w) :
  (results fn tmps).run Tryz.prog w = .ok (.tuple #[.agg cs, v]) w := by
 have hp' : tmps[p]?.getD undef = .pointer (some ⟨g, 0, none⟩) := by simpa using hp
 have hq' : tmps[q]?.getD undef = v := by simpa using hq
 simp [results, h, hp', hq', asAddr, hr]
theorem scheck_is (s : Store) (n : Int) (hn : Hid (s.chk = n)) (a fa : Option Addr) (c fc : Nat) (w : World) (hc : Chunks w) (hI : RowsAt w a 9 ItemR s.items) (hF : RowsAt w fa 2 (PageR w) s.flash.pages) (hl : s.items.length ≤ 9223372036854775806) (hfl : s.flash.pages.length ≤ 9223372036854775807) :
  Calls Tryz.prog 17 #[.agg (storeV s a c fa fc)] w fun e w' => e = .returned (.int .i64 n) ∧ Below w.heap.size w w' := by
 refine (store_Check s a fa c fc w hc hI hF (by omega) hfl).mono ?_
 rintro e w' ⟨rfl, hb⟩
 exact ⟨by rw [hn.out], hb⟩
theorem ok_nums {s : Store} (h : s.ok = true) : (0 ≤ s.clock ∧ s.clock ≤ 1099511627776) ∧ (0 ≤ s.cas ∧ s.cas ≤ 1099511627776) ∧ (0 ≤ s.uses ∧ s.uses ≤ 1099511627776) ∧ s.items.length ≤ 1000 ∧ s.flash.ok = true := by
 rw [ok_parts] at h
 simp only [Bool.and_eq_true] at h
 have h := h.1.1.1.1
 unfold headOK cnt at h
 simp only [Bool.and_eq_true, decide_eq_true_eq] at h
 have : maxN = 1099511627776 := rfl
 obtain ⟨⟨⟨⟨⟨h1, h2⟩, h3⟩, _⟩, h5⟩, h6⟩ := h
 exact ⟨by omega, by omega, by omega, h5, h6⟩
theorem tick_bad {s : Store} {n : Int} (h : s.ok = false) : s.tick n = (Store.zero, 8) := by unfold Store.tick; rw [if_pos h]
theorem tick_out {s : Store} {n : Int} (h : s.ok = true) (hn : n < 0 ∨ 1000 < n ∨ 1099511627776 < s.clock + n) : s.tick n = (Store.zero, 2) := by unfold Store.tick; rw [if_neg (by rw [h]; simp), if_pos hn]
theorem tick_good {s : Store} {n : Int} (h : s.ok = true) (hn : ¬ (n < 0 ∨ 1000 < n ∨ 1099511627776 < s.clock + n)) : s.tick n = ({ s with clock := s.clock + n }, 0) := by unfold Store.tick; rw [if_neg (by rw [h]; simp), if_neg hn]
/-- where a call ends with no store -/
theorem out_zero {t : Store} {n m : Int} {w w' : World} (h : (t, m) = (Store.zero, n)) (hb : Below w.heap.size w w') : OutStore t m w (.returned (.tuple #[.agg storeZt, .int .i64 n])) w' := by
 obtain ⟨rfl, rfl⟩ := Prod.mk.inj h
 exact ⟨none, 0, none, 0, rfl, StOwn.bare rfl rfl, hb⟩
theorem owns_kept {w w' : World} {base : Nat} {e : TypeId} {size : Nat} {v : Value} {n : Nat} {xs : List Value} (h : w.ownsRow base e size v n xs) (hb : ∀ k, base ≤ k → k < w.heap.size → w'.heap[k]? = w.heap[k]?) : w'.ownsRow base e size v n xs := by
 refine ⟨h.1, ?_⟩
 rcases h.2 with hn | ⟨g, cap, cur, rfl, hg, hh, rest⟩
 ·exact .inl hn
 ·exact .inr ⟨g, cap, cur, rfl, hg, by rw [hb g hg (blt hh)]; exact hh, rest⟩
theorem PagesMid.stay {base : Nat} {w0 w w' : World} {v : Value} {ps : List Page} {vs : List Value} {k : Nat} (h : PagesMid base w0 w v ps vs k) (hb : ∀ k, base ≤ k → k < w.heap.size → w'.heap[k]? = w.heap[k]?) : PagesMid base w0 w' v ps vs k :=
 ⟨h.len, owns_kept h.row hb, fun j p x h1 h2 h3 => owns_kept (h.done j p x h1 h2 h3) hb, h.old, h.off, h.apart⟩
theorem out_own {s : Store} {m : Int} {B : Nat} {va fa : Option Addr} {vc fc : Nat} {fvs : List Value} {w w2 w' : World} (how : w2.ownsRow B 83 9 (.slice va s.items.length vc) s.items.length (s.items.flatMap itemCells))
  (hpm : PagesMid B w2 w2 (.slice fa s.flash.pages.length fc) s.flash.pages fvs s.flash.pages.length) (hab : ∀ k, B ≤ k → k < w2.heap.size → w'.heap[k]? = w2.heap[k]?) (hi : ∀ x ∈ s.items, ItemB x) (hp : ∀ p ∈ s.flash.pages, PageB p) (hl : s.items.length ≤ 1000) (hpl : s.flash.pages.length ≤ 20) (hB : w.heap.size ≤ B) (hb : Below w.heap.size w w') :
  OutStore { s with clock := m } 0 w (.returned (.tuple #[.agg (storeV { s with clock := m } va vc fa fc), .int .i64 0])) w' :=
 ⟨va, vc, fa, fc, rfl, ((StOwn.mk how ⟨_, hpm⟩ hi hp hl hpl : StOwn B w2 { s with clock := m } va vc fa fc).kept hab).mono hB, hb⟩
theorem storeSize : (Tryz.prog.info? 28).map (·.size) = some 12 := by kernel_rfl
theorem zero_one : storeZt.all (·.oneCell') = true := store_one Store.zero none none 0 0
theorem rowC (w : World) (g : Nat) (s : Store) (n : Int) (a fa : Option Addr) (c fc T : Nat) (h : w.heap[g]? = some (.cells (storeV s a c fa fc) T (0, 0))) :
  w.setCell ⟨g, 0, none⟩ (.int .i64 n) = w.setRow g (storeV { s with clock := n } a c fa fc) := by
 rw [setCell_eq_setRow w g 0 _ _ _ _ h]
 rfl
set_option maxRecDepth 100000 in
set_option maxHeartbeats 2000000 in
theorem store_Tick (s : Store) (n : Int) (a fa : Option Addr) (c fc : Nat) (w : World) (hc : Chunks w) (hI : RowsAt w a 9 ItemR s.items) (hF : RowsAt w fa 2 (PageR w) s.flash.pages)
  (hn : s.items.length * 88 ≤ 140737488355328) (hfn : s.flash.pages.length * 32 ≤ 140737488355328) :
  Calls Tryz.prog 20 #[.agg (storeV s a c fa fc), .int .i64 n] w (OutStore (s.tick n).1 (s.tick n).2 w) := by
 have HI := hid hI
 have HF := hid hF
 have HC := hid hc
 clear hc
 clear hI hF
 cases hok : s.ok
 ·
  have HOK := hid hok
  have HT := hid (tick_bad (n := n) hok)
  have HN : Hid (s.chk = 8) := by show _ = _; unfold Store.chk; rw [hok]; rfl
  clear hok
  go_enter Tryz.func20, Tryz.ntmps20
  go_wp2_with fail
  obtain ⟨W0, hW0⟩ : ∃ W0, W0 = (w.alloc (.cells (storeV s a c fa fc) 28)).alloc (.cells storeZt 28) := ⟨_, rfl⟩
  have hbW : Below w.heap.size w W0 := by rw [hW0]; go_grown
  have hsW : w.heap.size + 2 = W0.heap.size := by rw [hW0]; simp
  have hB0 : W0.heap[w.heap.size]? = some (.cells (storeV s a c fa fc) 28 (0, 0)) := by rw [hW0, Below.heap_alloc _ _ _ (by simp)]; exact blk_new w _
  have hR0 : W0.heap[w.heap.size + 1]? = some (.cells storeZt 28 (0, 0)) := by
   have e : w.heap.size + 1 = (w.alloc (.cells (storeV s a c fa fc) 28)).heap.size := by simp
   rw [hW0, e]; exact blk_new _ _
  have HB0 := hid hB0
  have HR0 := hid hR0
  have HBW := hid hbW
  clear hB0 hR0 hbW
  rw [← hW0]
  clear hW0
  go_wp2_with (refine wpList_load_row rfl 28 _ rfl w.heap.size rfl _ _ _ _ HB0.out Tryz.underlying28 rfl (by kernel_rfl) ?_)
  refine (scheck_is s 8 HN a fa c fc _ (HC.out.keep (Below.keeps HBW.out)) (HI.out.keep (Below.keeps HBW.out) (fun _ _ h => h)) (HF.out.keep (Below.keeps HBW.out) (PageR.keep (Below.keeps HBW.out))) (by omega) (by omega)).mono ?_
  rintro e w1 ⟨rfl, hb1⟩
  have hz1 : w.heap.size + 2 ≤ w1.heap.size := by have := hb1.size; omega
  have HB1 := hid ((hb1.block w.heap.size (by omega)).trans HB0.out)
  have HR1 := hid ((hb1.block (w.heap.size + 1) (by omega)).trans HR0.out)
  have Hb1 := hid (HBW.out.trans (hb1.mono HBW.out.size))
  clear hb1 HB0 HR0
  go_wp2_with (refine wpList_store_row rfl 28 _ _ rfl (w.heap.size + 1) storeZt rfl rfl _ _ HR1.out storeSize rfl zero_one ?_)
  refine bodyPost_ret (v := .tuple #[.agg storeZt, .int .i64 8]) (results_row_int rfl _ _ (w.heap.size + 1) _ _ rfl rfl (run_loadVar_row _ _ _ _ _ _ _ (setRow_heap w1 _ _ _ _ _ HR1.out) Tryz.underlying28 rfl storeSize)) rfl ?_
  rw [HT.out]
  exact out_zero rfl (Hb1.out.trans (Below.setRow _ (w.heap.size + 1) _ (Nat.le_succ _)))
 ·
  have HOK := hid hok
  obtain ⟨hc, _, _, hl1, hl2⟩ := ok_nums hok
  have HL1 := hid hl1
  have HL2 : Hid (s.flash.pages.length ≤ 20) := pages_few hl2
  clear hl1 hl2
  have HN : Hid (s.chk = 0) := by show _ = _; unfold Store.chk; rw [hok]; rfl
  by_cases hnn : n < 0 ∨ 1000 < n ∨ 1099511627776 < s.clock + n
  ·
   have HT := hid (tick_out hok hnn)
   clear hok
   obtain ⟨hc0, hc1⟩ := hc
   rcases (show n < 0 ∨ (0 ≤ n ∧ 1000 < n) ∨ (0 ≤ n ∧ n ≤ 1000 ∧ 1099511627776 < s.clock + n) by omega) with h | ⟨h, h2⟩ | ⟨h, h2, h3⟩
   all_goals
    clear hnn
    go_enter Tryz.func20, Tryz.ntmps20
    go_wp2_with fail
    obtain ⟨W0, hW0⟩ : ∃ W0, W0 = (w.alloc (.cells (storeV s a c fa fc) 28)).alloc (.cells storeZt 28) := ⟨_, rfl⟩
    have hbW : Below w.heap.size w W0 := by rw [hW0]; go_grown
    have hsW : w.heap.size + 2 = W0.heap.size := by rw [hW0]; simp
    have hB0 : W0.heap[w.heap.size]? = some (.cells (storeV s a c fa fc) 28 (0, 0)) := by rw [hW0, Below.heap_alloc _ _ _ (by simp)]; exact blk_new w _
    have hR0 : W0.heap[w.heap.size + 1]? = some (.cells storeZt 28 (0, 0)) := by
     have e : w.heap.size + 1 = (w.alloc (.cells (storeV s a c fa fc) 28)).heap.size := by simp
     rw [hW0, e]; exact blk_new _ _
    have HB0 := hid hB0
    have HR0 := hid hR0
    have HBW := hid hbW
    clear hB0 hR0 hbW
    rw [← hW0]
    clear hW0
    go_wp2_with (refine wpList_load_row rfl 28 _ rfl w.heap.size rfl _ _ _ _ HB0.out Tryz.underlying28 rfl (by kernel_rfl) ?_)
    refine (scheck_is s 0 HN a fa c fc _ (HC.out.keep (Below.keeps HBW.out)) (HI.out.keep (Below.keeps HBW.out) (fun _ _ h => h)) (HF.out.keep (Below.keeps HBW.out) (PageR.keep (Below.keeps HBW.out))) (by omega) (by omega)).mono ?_
    rintro e w1 ⟨rfl, hb1⟩
    have hz1 : w.heap.size + 2 ≤ w1.heap.size := by have := hb1.size; omega
    have HB1 := hid ((hb1.block w.heap.size (by omega)).trans HB0.out)
    have HR1 := hid ((hb1.block (w.heap.size + 1) (by omega)).trans HR0.out)
    have Hb1 := hid (HBW.out.trans (hb1.mono HBW.out.size))
    clear hb1 HB0 HR0
    have s0 : w1.cell? ⟨w.heap.size, 0, none⟩ = some (.int .i64 s.clock) := cor HB1.out rfl
    go_wp2_with (refine wpList_store_row rfl 28 _ _ rfl (w.heap.size + 1) storeZt rfl rfl _ _ HR1.out storeSize rfl zero_one ?_)
    refine bodyPost_ret (v := .tuple #[.agg storeZt, .int .i64 2]) (results_row_int rfl _ _ (w.heap.size + 1) _ _ rfl rfl (run_loadVar_row _ _ _ _ _ _ _ (setRow_heap w1 _ _ _ _ _ HR1.out) Tryz.underlying28 rfl storeSize)) rfl ?_
    rw [HT.out]
    exact out_zero rfl (Hb1.out.trans (Below.setRow _ (w.heap.size + 1) _ (Nat.le_succ _)))
  ·
   have HT := hid (tick_good hok hnn)
   obtain ⟨m, hm⟩ : ∃ m, m = s.clock + n := ⟨_, rfl⟩
   obtain ⟨hc0, hc1⟩ := hc
   have hn0 : 0 ≤ n := by omega
   have hn1 : n ≤ 1000 := by omega
   have hm1 : s.clock + n ≤ 1099511627776 := by omega
   clear hok hnn
   go_enter Tryz.func20, Tryz.ntmps20
   go_wp2_with fail
   obtain ⟨W0, hW0⟩ : ∃ W0, W0 = (w.alloc (.cells (storeV s a c fa fc) 28)).alloc (.cells storeZt 28) := ⟨_, rfl⟩
   have hbW : Below w.heap.size w W0 := by rw [hW0]; go_grown
   have hsW : w.heap.size + 2 = W0.heap.size := by rw [hW0]; simp
   have hB0 : W0.heap[w.heap.size]? = some (.cells (storeV s a c fa fc) 28 (0, 0)) := by rw [hW0, Below.heap_alloc _ _ _ (by simp)]; exact blk_new w _
   have hR0 : W0.heap[w.heap.size + 1]? = some (.cells storeZt 28 (0, 0)) := by
    have e : w.heap.size + 1 = (w.alloc (.cells (storeV s a c fa fc) 28)).heap.size := by simp
    rw [hW0, e]; exact blk_new _ _
   have HB0 := hid hB0
   have HR0 := hid hR0
   have HBW := hid hbW
   clear hB0 hR0 hbW
   rw [← hW0]
   clear hW0
   go_wp2_with (refine wpList_load_row rfl 28 _ rfl w.heap.size rfl _ _ _ _ HB0.out Tryz.underlying28 rfl (by kernel_rfl) ?_)
   refine (scheck_is s 0 HN a fa c fc _ (HC.out.keep (Below.keeps HBW.out)) (HI.out.keep (Below.keeps HBW.out) (fun _ _ h => h)) (HF.out.keep (Below.keeps HBW.out) (PageR.keep (Below.keeps HBW.out))) (by omega) (by omega)).mono ?_
   rintro e w1 ⟨rfl, hb1⟩
   have hz1 : w.heap.size + 2 ≤ w1.heap.size := by have := hb1.size; omega
   have HB1 := hid ((hb1.block w.heap.size (by omega)).trans HB0.out)
   have HR1 := hid ((hb1.block (w.heap.size + 1) (by omega)).trans HR0.out)
   have Hb1 := hid (HBW.out.trans (hb1.mono HBW.out.size))
   have HL3 := hid Hb1.out.size
   clear hb1 HB0 HR0
   have s0 : w1.cell? ⟨w.heap.size, 0, none⟩ = some (.int .i64 s.clock) := cor HB1.out rfl
   go_upto_region 6 with (fail)
   clear s0
   go_wp2_with (refine wpList_load_row rfl 28 _ rfl w.heap.size rfl _ _ _ _ HB1.out Tryz.underlying28 rfl (by kernel_rfl) ?_)
   refine (store_Copy s a fa c fc _ (HI.out.keep (Below.keeps Hb1.out) (fun _ _ h => h)) (HF.out.keep (Below.keeps Hb1.out) (PageR.keep (Below.keeps Hb1.out))) hn hfn).mono ?_
   rintro e w2 ⟨va, vc, fva, fvc, fvs, rfl, how, hpm, hb2⟩
   have hz2 : w.heap.size + 2 ≤ w2.heap.size := by have := hb2.size; omega
   have HB2 := hid ((hb2.block w.heap.size (by omega)).trans HB1.out)
   have HR2 := hid ((hb2.block (w.heap.size + 1) (by omega)).trans HR1.out)
   have Hb2 := hid (Hb1.out.trans (hb2.mono Hb1.out.size))
   have HOW := hid how
   have HP := hid hpm
   have hz12 : w.heap.size + 2 ≤ w1.heap.size := by omega
   clear how hpm hb2 HB1 HR1
   go_upto_region 7 with (refine wpList_store_row rfl 28 _ _ rfl w.heap.size _ rfl rfl _ _ HB2.out storeSize rfl (store_one _ _ _ _ _) ?_)
   obtain ⟨W3, hW3⟩ : ∃ W3, W3 = w2.setRow w.heap.size (storeV s va vc fva fvc) := ⟨_, rfl⟩
   have HB3 : Hid (W3.heap[w.heap.size]? = some (.cells (storeV s va vc fva fvc) 28 (0, 0))) := by show _ = _; rw [hW3]; exact setRow_heap w2 _ _ _ _ _ HB2.out
   have HR3 : Hid (W3.heap[w.heap.size + 1]? = some (.cells storeZt 28 (0, 0))) := by show _ = _; rw [hW3, setRow_other _ _ _ _ (by omega)]; exact HR2.out
   have HBW3 : Hid (Below w.heap.size w W3) := by rw [hW3]; exact Hb2.out.trans (Below.setRow w2 w.heap.size _ (Nat.le_refl _))
   have HAB3 : Hid (∀ k, w.heap.size + 2 ≤ k → W3.heap[k]? = w2.heap[k]?) := fun k hk => by rw [hW3]; exact setRow_other _ _ k _ (by omega)
   have s0 : W3.cell? ⟨w.heap.size, 0, none⟩ = some (.int .i64 s.clock) := cor HB3.out rfl
   have f0 : W3.frozen? ⟨w.heap.size, 0, none⟩ = false := frozen_of_row W3 _ _ _ _ HB3.out
   rw [← hW3]
   clear hW3
   go_upto_region 8 with (fail)
   rw [rowC W3 w.heap.size s _ va fva vc fvc _ HB3.out]
   obtain ⟨W4, hW4⟩ : ∃ W4, W4 = W3.setRow w.heap.size (storeV { s with clock := s.clock + n } va vc fva fvc) := ⟨_, rfl⟩
   have HB4 : Hid (W4.heap[w.heap.size]? = some (.cells (storeV { s with clock := s.clock + n } va vc fva fvc) 28 (0, 0))) := by show _ = _; rw [hW4]; exact setRow_heap W3 _ _ _ _ _ HB3.out
   have HR4 : Hid (W4.heap[w.heap.size + 1]? = some (.cells storeZt 28 (0, 0))) := by show _ = _; rw [hW4, setRow_other _ _ _ _ (by omega)]; exact HR3.out
   have HBW4 : Hid (Below w.heap.size w W4) := by rw [hW4]; exact HBW3.out.trans (Below.setRow W3 w.heap.size _ (Nat.le_refl _))
   have HAB4 : Hid (∀ k, w.heap.size + 2 ≤ k → W4.heap[k]? = w2.heap[k]?) := fun k hk => by rw [hW4]; exact (setRow_other _ _ k _ (by omega)).trans (HAB3.out k hk)
   rw [← hW4]
   clear hW4 s0 f0
   go_wp2_with (first
    | refine wpList_load_row rfl 28 _ rfl w.heap.size rfl _ _ _ _ HB4.out Tryz.underlying28 rfl (by kernel_rfl) ?_
    | refine wpList_store_row rfl 28 _ _ rfl (w.heap.size + 1) _ rfl rfl _ _ HR4.out storeSize rfl (store_one { s with clock := s.clock + n } _ _ _ _) ?_)
   refine bodyPost_ret (v := .tuple #[.agg (storeV { s with clock := s.clock + n } va vc fva fvc), .int .i64 0]) (results_row_int rfl _ _ (w.heap.size + 1) _ _ rfl rfl (run_loadVar_row _ _ _ _ _ _ _ (setRow_heap W4 _ _ _ _ _ HR4.out) Tryz.underlying28 rfl storeSize)) rfl ?_
   rw [HT.out]
   exact out_own HOW.out HP.out (fun k hk _ => (setRow_other _ _ k _ (by omega)).trans (HAB4.out k (by omega))) HI.out.itemB HF.out.pageB HL1.out HL2.out HL3.out (HBW4.out.trans (Below.setRow _ (w.heap.size + 1) _ (Nat.le_succ _)))
end Go.Proofs.YtbeegfkfpkfccaaGreatDoor.D

