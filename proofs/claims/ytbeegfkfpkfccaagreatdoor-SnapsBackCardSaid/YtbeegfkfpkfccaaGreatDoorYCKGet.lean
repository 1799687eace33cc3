/-
 Contract: keep.get.
-/
import Derived.Test.YtbeegfkfpkfccaaGreatDoorYCEnd
namespace Go.Proofs.YtbeegfkfpkfccaaGreatDoor.D
open Go.RowKit
def Hit.zero : Hit := ⟨⟨#[]⟩, 0, 0, ⟨#[]⟩⟩
def getReq (k : ByteArray) : Req := ⟨1, ⟨#[]⟩, [k], 0, 0, 0, ⟨#[]⟩, false⟩
def getOf (s : Store) (k : ByteArray) : Store × Hit × Bool :=
 if (doOf s (getReq k)).2.2 = 0 then (match (doOf s (getReq k)).2.1.hits with | [h] => ((doOf s (getReq k)).1, h, true) | _ => ((doOf s (getReq k)).1, Hit.zero, false)) else ((doOf s (getReq k)).1, Hit.zero, false)
def GetEnd (t : Store × Hit × Bool) (w : World) (E : Ending) (w' : World) : Prop :=
 ∃ va vc fa fc, E = .returned (.tuple #[.agg (storeV t.1 va vc fa fc), .agg #[.string t.2.1.key, .int .i64 t.2.1.flags, .int .i64 t.2.1.cas, .string t.2.1.value], .bool t.2.2]) ∧ StOwn w.heap.size w' t.1 va vc fa fc ∧ Below w.heap.size w w'
theorem two_new (w : World) (o1 o2 : Obj) : ∃ W, W = (w.alloc o1).alloc o2 ∧ Below w.heap.size w W ∧ W.heap[w.heap.size]? = some o1 ∧ W.heap[w.heap.size + 1]? = some o2 := by
 have s1 : (w.alloc o1).heap.size = w.heap.size + 1 := by simp
 refine ⟨_, rfl, by go_grown, ?_, ?_⟩
 ·rw [Below.heap_alloc _ _ _ (by omega)]; exact blk_new w _
 ·rw [← s1]; exact blk_new _ _
theorem hitSize : (Tryz.prog.info? 53).map (·.size) = some 4 := by kernel_rfl
theorem hit_one (k : ByteArray) (a b : Int) (v : ByteArray) : (#[.string k, .int .i64 a, .int .i64 b, .string v] : Array Value).all (·.oneCell') = true := by simp [Value.oneCell']
theorem results_two {fn : Func} {p q r : Tmp} {ty ty2 : TypeId} (h : fn.results = #[.cell p ty, .cell q ty2, .tmp r]) (tmps : Array Value) (w : World) (g g2 : Nat) (cs ds : Array Value) (v : Value)
  (hp : tmps.getD p undef = .pointer (some ⟨g, 0, none⟩)) (hq : tmps.getD q undef = .pointer (some ⟨g2, 0, none⟩)) (hv : tmps.getD r undef = v) (hr : (loadVar ty ⟨g, 0, none⟩).run Tryz.prog w = .ok (.agg cs) w) (hs : (loadVar ty2 ⟨g2, 0, none⟩).run Tryz.prog w = .ok (.agg ds) w) :
  (results fn tmps).run Tryz.prog w = .ok (.tuple #[.agg cs, .agg ds, v]) w := by
 have hp' : tmps[p]?.getD undef = .pointer (some ⟨g, 0, none⟩) := by simpa using hp
 have hq' : tmps[q]?.getD undef = .pointer (some ⟨g2, 0, none⟩) := by simpa using hq
 have hv' : tmps[r]?.getD undef = v := by simpa using hv
 simp [results, h, hp', hq', hv', asAddr, hr, hs]
theorem one_key {w : World} {B T : Nat} {k : ByteArray} {fr : Nat × Nat} (h : w.heap[B]? = some (.cells #[.string k] T fr)) (hk : k.size ≤ reachBytes) : RowsAt w (some ⟨B, 0, none⟩) 1 strR [k] := by
 refine .inr ⟨B, 0, rfl, fun i hi => ⟨[.string k], rfl, ?_, fun j v hj => ?_⟩⟩
 ·obtain rfl : i = 0 := by simpa using hi
  exact ⟨rfl, hk⟩
 ·obtain rfl : i = 0 := by simpa using hi
  rcases j with _ | j
  ·rw [cell_of_row w _ _ _ _ _ h]; exact hj
  ·simp at hj
theorem got1_keys (a : Store × List Hit) (k : ByteArray) : ∀ x ∈ (got1 a k).2, x ∈ a.2 ∨ x.key = k := by
 intro x hx
 unfold got1 at hx
 split at hx
 ·exact .inl hx
 ·split at hx
  ·exact .inl hx
  ·rw [List.mem_append] at hx
   rcases hx with hx | hx
   ·exact .inl hx
   ·obtain rfl := List.mem_singleton.1 hx; exact .inr rfl
theorem get_key {s : Store} {k : ByteArray} {h : Hit} (h0 : (doOf s (getReq k)).2.2 = 0) (hh : h ∈ (doOf s (getReq k)).2.1.hits) : h.key = k ∧ 1 ≤ k.size := by
 rcases do_cases s (getReq k) with ⟨_, _, e⟩ | ⟨_, hf, _, _, e⟩
 ·exact absurd h0 e
 ·rw [e] at hh
  have hk := keyOK_len ((rok hf).keys rfl |>.2 k (List.mem_singleton_self k))
  refine ⟨?_, ?_⟩
  ·have : (doReq s (getReq k)).2.hits = (got s [k]).2 := rfl
   rw [this] at hh
   rcases got1_keys (s, []) k h hh with x | x
   ·cases x
   ·exact x
  ·exact hk.1
/-- a hit lies apart from boxes that hold none -/
theorem hit_apart {w : World} {ha : Option Addr} {h : Hit} {B4 B5 T4 T5 : Nat} {f4 f5 : Nat × Nat} (hh : RowsAt w ha 4 HitR [h]) (hk : 1 ≤ h.key.size)
  (h4 : w.heap[B4]? = some (.cells #[.int .i64 0, .int .i64 0, .int .i64 0, .int .i64 0, .int .i64 0, .int .i64 0, .int .i64 0, .int .i64 0, .slice none 0 0, .int .i64 0, .int .i64 0, .slice none 0 0] T4 f4)) (h5 : w.heap[B5]? = some (.cells #[.string ⟨#[]⟩, .int .i64 0, .int .i64 0, .string ⟨#[]⟩] T5 f5)) :
  ∃ b o, ha = some ⟨b, o, none⟩ ∧ b ≠ B4 ∧ b ≠ B5 ∧ b < w.heap.size ∧ w.cell? ⟨b, o, none⟩ = some (.string h.key) ∧ w.cell? ⟨b, o + 1, none⟩ = some (.int .i64 h.flags) ∧ w.cell? ⟨b, o + 2, none⟩ = some (.int .i64 h.cas) ∧ w.cell? ⟨b, o + 3, none⟩ = some (.string h.value) := by
 rcases hh with hh | ⟨b, o, rfl, hc⟩
 ·cases hh
 ·obtain ⟨cs, hl, ⟨rfl, _⟩, hv⟩ := hc 0 (by simp)
  have c0 := hv 0 _ rfl
  have c1 := hv 1 _ rfl
  have c2 := hv 2 _ rfl
  have c3 := hv 3 _ rfl
  simp only [Nat.zero_mul, Nat.add_zero] at c0 c1 c2 c3
  refine ⟨b, o, rfl, fun e => ?_, fun e => ?_, cell_lt c0, c0, c1, c2, c3⟩
  ·subst e
   rw [cell_of_row w _ _ _ _ _ h4, ← Array.getElem?_toList] at c0
   have := List.mem_of_getElem? c0
   simp at this
  ·subst e
   rw [cell_of_row w _ _ _ _ _ h5, ← Array.getElem?_toList] at c0
   have := List.mem_of_getElem? c0
   simp at this
   rw [this] at hk; exact absurd hk (by decide)
set_option maxHeartbeats 2000000 in
set_option maxRecDepth 100000 in
theorem keep_get (s : Store) (k : ByteArray) (va fa : Option Addr) (vc fc : Nat) (w : World) (he : Env w) (hs : StAt w s va vc fa fc) (hk : k.size ≤ 1000) :
  Calls Tryz.prog 19 #[.agg (storeV s va vc fa fc), .string k] w (GetEnd (getOf s k) w) := by
 have HE := hid he
 have HS := hid hs
 clear he hs
 go_enter Tryz.func19, Tryz.ntmps19
 go_upto_region 1 with (fail)
 obtain ⟨W4, hW4, hb4, hr4, hr5, hr6, hr7⟩ : ∃ W4, W4 = ((((w.alloc (.cells (storeV s va vc fa fc) 28)).alloc (.cells #[.int .i64 0, .int .i64 0, .int .i64 0, .int .i64 0, .int .i64 0, .int .i64 0, .int .i64 0, .int .i64 0, .slice none 0 0, .int .i64 0, .int .i64 0, .slice none 0 0] 28)).alloc (.cells #[.string ⟨#[]⟩, .int .i64 0, .int .i64 0, .string ⟨#[]⟩] 53)).alloc (.cells #[.string k] 9)) ∧ _ ∧ _ ∧ _ ∧ _ ∧ _ := four_boxes w _ _ _ _
 go_upto_region 2 with (fail)
 rw [← hW4]
 obtain ⟨B4, hB4⟩ : ∃ B, B = w.heap.size + 1 := ⟨_, rfl⟩
 obtain ⟨B5, hB5⟩ : ∃ B, B = w.heap.size + 1 + 1 := ⟨_, rfl⟩
 obtain ⟨B6, hB6⟩ : ∃ B, B = w.heap.size + 1 + 1 + 1 := ⟨_, rfl⟩
 rw [← hB6] at hr7
 rw [← hB5] at hr6
 rw [← hB4] at hr5
 rw [← hB6, ← hB5, ← hB4]
 have hB4w : w.heap.size ≤ B4 := by omega
 have hB5w : w.heap.size ≤ B5 := by omega
 have h45 : B4 ≠ B5 := by omega
 have R4 := hid hr5
 have R5 := hid hr6
 have HB4 := hid hb4
 have HE4 := hid (HE.out.on hb4)
 have HS4 := hid (HS.out.keep hb4)
 have hkey := one_key hr7 (by unfold reachBytes; omega : k.size ≤ reachBytes)
 clear hW4 hB4 hB5 hB6 hr4 hr5 hr6 hr7 hb4
 obtain ⟨T, hT⟩ : ∃ T, T = doOf s (getReq k) := ⟨_, rfl⟩
 refine (do_at (r := getReq k) (ka := some ⟨B6, 0, none⟩) (kc := 1) HE4 HS4 hkey (by show 1 ≤ 1000; omega) (by show 0 ≤ 1000; omega) rfl rfl).mono ?_
 rw [← hT]
 have HT := hid hT
 clear hT hkey
 obtain ⟨ts, ⟨tk, tn, th⟩, te⟩ := T
 rintro e w5 ⟨va', vc', fa', fc', ha, hc, rfl, hs5, hh5, hb5⟩
 simp only [replyCells] at hs5 hh5 ⊢
 have R45 := hid ((hb5.block _ (blt R4.out)).trans R4.out)
 have R55 := hid ((hb5.block _ (blt R5.out)).trans R5.out)
 have HB5 := hid (HB4.out.trans (hb5.mono HB4.out.size))
 have h4w : B4 < W4.heap.size := (blt R4.out)
 have h5w : B5 < W4.heap.size := (blt R5.out)
 have HS5 := hid hs5
 have HH5 := hid hh5
 have hz5 : B5 < w5.heap.size := (blt R55.out)
 have hw4 : w.heap.size ≤ W4.heap.size := HB4.out.size
 clear hs5 hh5 hb5 R4 R5 HB4 HE4 HS4 HE HS
 obtain ⟨m, hm⟩ : ∃ m, m = th.length := ⟨_, rfl⟩
 rw [← hm]
 have HM := hid hm
 clear hm
 go_upto_region 2 with (fail)
 obtain ⟨W7, hW7, hb7, hr8, hr9⟩ := two_new w5 (.cells (storeV ts va' vc' fa' fc') 28) (.cells #[.int .i64 tk, .int .i64 tn, .slice ha m hc] 35)
 rw [← hW7]
 obtain ⟨B8, hB8⟩ : ∃ B, B = w5.heap.size := ⟨_, rfl⟩
 obtain ⟨B9, hB9⟩ : ∃ B, B = w5.heap.size + 1 := ⟨_, rfl⟩
 rw [← hB9] at hr9
 rw [← hB8] at hr8
 rw [← hB9, ← hB8]
 have R47 := hid ((hb7.block _ (blt R45.out)).trans R45.out)
 have R57 := hid ((hb7.block _ (blt R55.out)).trans R55.out)
 have R87 := hid hr8
 have R97 := hid hr9
 have HB7 := hid (HB5.out.trans (hb7.mono HB5.out.size))
 have HS7 := hid (HS5.out.below hb7)
 have HH7 := hid (HH5.out.keep (Below.keeps hb7) (fun _ _ h => h))
 have hz4 := (blt R45.out)
 have h84 : B8 ≠ B4 := by omega
 have h85 : B8 ≠ B5 := by omega
 have h94 : B9 ≠ B4 := by omega
 have h95 : B9 ≠ B5 := by omega
 clear hz4 hW7 hB8 hB9 hr8 hr9 hb7 R45 R55 HB5 HS5 HH5 hz5
 by_cases h0 : te = 0
 rotate_left
 ·
  have HG : Hid (getOf s k = (ts, Hit.zero, false)) := by show _ = _; unfold getOf; rw [← HT.out]; rw [if_neg h0]
  have f1 : (te == 0) = false := by simp [h0]
  have f2 : (te != 0) = true := by simp [h0]
  clear HT
  go_wp2_with (first
   | refine wpList_load_row rfl 28 _ rfl B8 rfl _ _ _ _ R87.out Tryz.underlying28 rfl (by kernel_rfl) ?_
   | refine wpList_store_row rfl 28 _ _ rfl B4 _ rfl rfl _ _ R47.out storeSize rfl (store_one _ _ _ _ _) ?_
   | refine wpList_store_row rfl 53 _ _ rfl B5 _ rfl rfl _ _ ((setRow_other _ _ _ _ h45.symm).trans R57.out) hitSize rfl (hit_one _ _ _ _) ?_)
  refine bodyPost_ret (v := .tuple #[.agg (storeV ts va' vc' fa' fc'), .agg #[.string ⟨#[]⟩, .int .i64 0, .int .i64 0, .string ⟨#[]⟩], .bool false]) (results_two rfl _ _ B4 B5 _ _ _ rfl rfl rfl
   (run_loadVar_row _ _ _ _ _ _ _ ((setRow_other _ _ _ _ h45).trans (setRow_heap W7 _ _ _ _ _ R47.out)) Tryz.underlying28 rfl storeSize)
   (run_loadVar_row _ _ _ _ _ _ _ (setRow_heap _ _ _ _ _ _ ((setRow_other _ _ _ _ h45.symm).trans R57.out)) Tryz.underlying53 rfl hitSize)) rfl ?_
  rw [HG.out]
  exact ⟨va', vc', fa', fc', rfl, ((HS7.out.set h4w).set h5w).mono hw4, (HB7.out.trans (Below.setRow _ B4 _ hB4w)).trans (Below.setRow _ B5 _ hB5w)⟩
 subst h0
 by_cases h1 : m = 1
 rotate_left
 ·
  have HG : Hid (getOf s k = (ts, Hit.zero, false)) := by
   show _ = _; unfold getOf; rw [← HT.out]; rw [if_pos rfl]
   have hm := HM.out
   split
   ·rename_i x hx; simp only at hx; rw [hx] at hm; exact absurd hm h1
   ·rfl
  have f1 : ((m : Int) == 1) = false := by simp; omega
  have f2 : ((m : Int) != 1) = true := by simp; omega
  have h9 : W7.cell? ⟨B9, 2, none⟩ = some (.slice ha m hc) := cor R97.out rfl
  clear HT
  go_wp2_with (first
   | refine wpList_load_row rfl 28 _ rfl B8 rfl _ _ _ _ R87.out Tryz.underlying28 rfl (by kernel_rfl) ?_
   | refine wpList_store_row rfl 28 _ _ rfl B4 _ rfl rfl _ _ R47.out storeSize rfl (store_one _ _ _ _ _) ?_
   | refine wpList_store_row rfl 53 _ _ rfl B5 _ rfl rfl _ _ ((setRow_other _ _ _ _ h45.symm).trans R57.out) hitSize rfl (hit_one _ _ _ _) ?_)
  refine bodyPost_ret (v := .tuple #[.agg (storeV ts va' vc' fa' fc'), .agg #[.string ⟨#[]⟩, .int .i64 0, .int .i64 0, .string ⟨#[]⟩], .bool false]) (results_two rfl _ _ B4 B5 _ _ _ rfl rfl rfl
   (run_loadVar_row _ _ _ _ _ _ _ ((setRow_other _ _ _ _ h45).trans (setRow_heap W7 _ _ _ _ _ R47.out)) Tryz.underlying28 rfl storeSize)
   (run_loadVar_row _ _ _ _ _ _ _ (setRow_heap _ _ _ _ _ _ ((setRow_other _ _ _ _ h45.symm).trans R57.out)) Tryz.underlying53 rfl hitSize)) rfl ?_
  rw [HG.out]
  exact ⟨va', vc', fa', fc', rfl, ((HS7.out.set h4w).set h5w).mono hw4, (HB7.out.trans (Below.setRow _ B4 _ hB4w)).trans (Below.setRow _ B5 _ hB5w)⟩
 obtain ⟨h, rfl⟩ : ∃ h, th = [h] := by
  have hm := HM.out
  match th, hm with
  | [h], _ => exact ⟨h, rfl⟩
  | [], hm => cases h1.symm.trans hm
  | _ :: _ :: _, hm => simp at hm; omega
 have hkey : h.key = k ∧ 1 ≤ k.size := get_key (s := s) (by rw [← HT.out]) (by rw [← HT.out]; exact List.mem_singleton_self h)
 have HG : Hid (getOf s k = (ts, h, true)) := by show _ = _; unfold getOf; rw [← HT.out]; rfl
 obtain ⟨b, o, rfl, hb4, hb5, hbl, c0, c1, c2, c3⟩ := hit_apart HH7.out (by rw [hkey.1]; exact hkey.2) R47.out R57.out
 subst h1
 have h9 : W7.cell? ⟨B9, 2, none⟩ = some (.slice (some ⟨b, o, none⟩) 1 hc) := cor R97.out rfl
 clear HT HH7 HM hkey
 go_upto_region 4 with (fail)
 refine wp_region_L (fun w' => w'.heap[B8]? = W7.heap[B8]? ∧ w'.heap[B9]? = W7.heap[B9]? ∧ w'.heap[b]? = W7.heap[b]?) 7 8 (by kernel_rfl) (by kernel_rfl) ⟨rfl, rfl, rfl⟩ (fun hHeld => ?_)
 refine wpAnyL_take (i := 1) (v := ?_) rfl (by kernel_rfl) (fun _ _ _ h => h) (Or.inl ⟨by rfl, ?_⟩) (by assumption) ?_
 rotate_left
 ·intro wS hSw; go_simp <;> with_reducible rfl
 walk_nrm
 refine wpAnyL_take (i := 2) (v := ?_) rfl (by kernel_rfl) (fun _ _ _ h => h) (Or.inl ⟨by rfl, ?_⟩) (by assumption) ?_
 rotate_left
 ·intro wS hSw; have k9 := (World.cell?_of_block (w := W7) hSw.2.1).trans h9; go_simp <;> with_reducible rfl
 walk_nrm
 refine wpAnyL_take (i := 3) (v := ?_) rfl (by kernel_rfl) (fun _ _ _ h => h) (Or.inl ⟨by rfl, ?_⟩) (by assumption) ?_
 rotate_left
 ·intro wS hSw; go_simp <;> with_reducible rfl
 walk_nrm
 refine wpAnyL_take (i := 0) (v := _) rfl (by kernel_rfl) (fun _ _ _ h => h) (Or.inl ⟨by rfl, fun wS hSw => exec_load_row 28 _ rfl (B8) rfl _ _ _ _ (hSw.1.trans R87.out) Tryz.underlying28 rfl (by kernel_rfl)⟩) (by assumption) ?_
 walk_nrm
 refine wpAnyL_take (i := 4) (v := ?_) rfl (by kernel_rfl) (fun _ _ _ h => h) (Or.inl ⟨by rfl, ?_⟩) (by assumption) ?_
 rotate_left
 ·intro wS hSw; have k0 := (World.cell?_of_block (w := W7) hSw.2.2).trans c0; have k1 := (World.cell?_of_block (w := W7) hSw.2.2).trans c1; have k2 := (World.cell?_of_block (w := W7) hSw.2.2).trans c2; have k3 := (World.cell?_of_block (w := W7) hSw.2.2).trans c3; go_simp <;> with_reducible rfl
 walk_nrm
 refine wpAnyL_one 5 (by kernel_rfl) ?_
 refine ComesUp.mk rfl (fun K hK => ?_)
 rw [if_pos (by rfl)]
 refine wp_store_row 28 _ _ rfl B4 _ rfl rfl _ _ (w := W7.drew) R47.out storeSize rfl (store_one _ _ _ _ _) ?_
 refine hK.out _ _ ⟨setRow_other _ _ _ _ h84, setRow_other _ _ _ _ h94, setRow_other _ _ _ _ hb4⟩ ?_
 clear hK K hHeld
 intro hHeld
 walk_nrm
 refine wpAnyL_one 6 (by kernel_rfl) ?_
 refine ComesUp.mk rfl (fun K hK => ?_)
 rw [if_pos (by rfl)]
 refine wp_store_row 53 _ _ rfl B5 _ rfl rfl _ _ ((setRow_other _ _ _ _ h45.symm).trans R57.out) hitSize rfl (hit_one _ _ _ _) ?_
 refine hK.out _ _ ⟨(setRow_other _ _ _ _ h85).trans hHeld.1, (setRow_other _ _ _ _ h95).trans hHeld.2.1, (setRow_other _ _ _ _ hb5).trans hHeld.2.2⟩ ?_
 clear hK K hHeld
 intro _
 walk_nrm
 refine wpAnyL_last rfl (by kernel_rfl) (fun K hK => ?_)
 go_simp
 refine hK.out _ _ ?_
 clear hK K
 walk_nrm
 refine wpAnyL_done (by kernel_rfl) ?_ _
 go_wp2_with fail
 refine bodyPost_ret (v := .tuple #[.agg (storeV ts va' vc' fa' fc'), .agg #[.string h.key, .int .i64 h.flags, .int .i64 h.cas, .string h.value], .bool true]) (results_two rfl _ _ B4 B5 _ _ _ rfl rfl rfl
  (run_loadVar_row _ _ _ _ _ _ _ ((setRow_other _ _ _ _ h45).trans (setRow_heap W7.drew _ _ _ _ _ R47.out)) Tryz.underlying28 rfl storeSize)
  (run_loadVar_row _ _ _ _ _ _ _ (setRow_heap _ _ _ _ _ _ ((setRow_other _ _ _ _ h45.symm).trans R57.out)) Tryz.underlying53 rfl hitSize)) rfl ?_
 rw [HG.out]
 exact ⟨va', vc', fa', fc', rfl, (((HS7.out.kept (w' := W7.drew) (fun _ _ _ => rfl)).set h4w).set h5w).mono hw4, (HB7.out.drew.trans (Below.setRow _ B4 _ hB4w)).trans (Below.setRow _ B5 _ hB5w)⟩
end Go.Proofs.YtbeegfkfpkfccaaGreatDoor.D

