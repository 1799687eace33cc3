/-
  PROVED: 'Rows.StoreTicksCardSaid': store.Tick answers what P3.7 says, at every argument. No condition; the table of chunks is tied to the program's text.
-/
import Derived.Test.YtbipegbgfdpaeaaDoorCDoor
import Derived.Test.YtbipegbgfdpaeaaDoorCTick
namespace Go.Proofs.YtbipegbgfdpaeaaDoor.storeTicks
open Go.ChangeShapes Go.WideShapes Go.ChangeAt Go.RowKit Go.Proofs.YtbipegbgfdpaeaaDoor.D

theorem tick_len (s : Store) (n : Int) : (s.tick n).1.items.length ≤ s.items.length ∧ (s.tick n).1.flash.pages.length ≤ s.flash.pages.length := by
  unfold Store.tick
  split
  · exact ⟨Nat.zero_le _, Nat.zero_le _⟩
  · split
    · exact ⟨Nat.zero_le _, Nat.zero_le _⟩
    · exact ⟨Nat.le_refl _, Nat.le_refl _⟩
set_option maxRecDepth 100000 in
set_option maxHeartbeats 2000000 in
theorem walk (s : Store) (n : Int) (a fa : Option Addr) (c fc : Nat) (w : World) (hch : Chunks w) (h : RowsAt w a 9 ItemR s.items) (hf : RowsAt w fa 2 (PageR w) s.flash.pages)
    (hn : s.items.length * 88 ≤ 140737488355328) (hfn : s.flash.pages.length * 32 ≤ 140737488355328) :
    Calls Tryd.prog 5 #[.agg (storeV s a c fa fc), .int .i64 n] w fun e w' => e = .returned (.bool true) ∧ Below w.heap.size w w' := by
  have HI := Lib.hid h
  have HF := Lib.hid hf
  have HCH := Lib.hid hch
  clear h hf hch
  obtain ⟨l1, l2⟩ := tick_len s n
  obtain ⟨r, hr⟩ : ∃ r, r = s.tick n := ⟨_, rfl⟩
  rw [← hr] at l1 l2
  have HR := Lib.hid hr
  clear hr
  obtain ⟨t, m⟩ := r
  simp only at l1 l2
  go_enter Tryd.func5, Tryd.ntmps5
  go_wp2_with fail
  obtain ⟨W0, hW0⟩ : ∃ W0, W0 = w.alloc (.cells (storeV s a c fa fc) 30) := ⟨_, rfl⟩
  have hz0 : w.heap.size < W0.heap.size := by rw [hW0]; simp
  have HB0 : Hid (Below w.heap.size w W0) := by show Below _ _ _; rw [hW0]; go_grown
  have HG0 : Hid (W0.heap[w.heap.size]? = some (.cells (storeV s a c fa fc) 30 (0, 0))) := by show _ = _; rw [hW0]; exact blk_new w _
  rw [← hW0]
  clear hW0
  refine (store_Tick s n a fa c fc _ ?_ ?_ ?_ hn hfn).mono ?_
  · exact HCH.out.keep (Below.keeps HB0.out)
  · exact HI.out.keep (Below.keeps HB0.out) (fun _ _ h => h)
  · exact HF.out.keep (Below.keeps HB0.out) (PageR.keep (Below.keeps HB0.out))
  rintro e w1 ⟨va, vc, fva, fvc, rfl, hi1, hf1, hb1⟩
  rw [← HR.out] at hi1 hf1 ⊢
  simp only at hi1 hf1 ⊢
  have HI1 := Lib.hid hi1
  have HF1 := Lib.hid hf1
  have hz1 : w.heap.size < w1.heap.size := by have := hb1.size; omega
  have HG1 := Lib.hid ((hb1.block w.heap.size hz0).trans HG0.out)
  have HB1 := Lib.hid (HB0.out.trans (hb1.mono HB0.out.size))
  clear hi1 hf1 hb1 HG0
  go_upto_region 2 with (fail)
  obtain ⟨W2, hW2⟩ : ∃ W2, W2 = w1.alloc (.cells (storeV t va vc fva fvc) 30) := ⟨_, rfl⟩
  have hz2 : w1.heap.size < W2.heap.size := by rw [hW2]; simp
  have hb2 : Below w1.heap.size w1 W2 := by rw [hW2]; exact (Below.refl _ _).alloc (Nat.le_refl _) _
  have HH2 : Hid (W2.heap[w1.heap.size]? = some (.cells (storeV t va vc fva fvc) 30 (0, 0))) := by show _ = _; rw [hW2]; exact blk_new w1 _
  rw [← hW2]
  clear hW2
  have HG2 := Lib.hid ((hb2.block w.heap.size hz1).trans HG1.out)
  have HB2 := Lib.hid (HB1.out.trans (hb2.mono HB1.out.size))
  have HI2 := Lib.hid (HI1.out.keep (Below.keeps hb2) (fun _ _ h => h))
  have HF2 := Lib.hid (HF1.out.keep (Below.keeps hb2) (PageR.keep (Below.keeps hb2)))
  clear hb2 HI1 HF1 HG1
  go_wp2_with (refine wpList_load_row rfl 30 _ rfl w.heap.size rfl _ _ _ _ HG2.out Tryd.underlying30 rfl (by kernel_rfl) ?_)
  refine (ref_TickedOf s n a fa c fc _ ?_ ?_ hn hfn).mono ?_
  · exact HI.out.keep (Below.keeps HB2.out) (fun _ _ h => h)
  · exact HF.out.keep (Below.keeps HB2.out) (PageR.keep (Below.keeps HB2.out))
  rintro e w3 ⟨va', vc', fva', fvc', rfl, hi3, hf3, hb3⟩
  rw [← HR.out] at hi3 hf3 ⊢
  simp only at hi3 hf3 ⊢
  have HI3 := Lib.hid hi3
  have HF3 := Lib.hid hf3
  have hz3 : w1.heap.size < w3.heap.size := by have := hb3.size; omega
  have HH3 := Lib.hid ((hb3.block w1.heap.size hz2).trans HH2.out)
  have HB3 := Lib.hid (HB2.out.trans (hb3.mono HB2.out.size))
  have HI2' := Lib.hid (HI2.out.keep (Below.keeps hb3) (fun _ _ h => h))
  have HF2' := Lib.hid (HF2.out.keep (Below.keeps hb3) (PageR.keep (Below.keeps hb3)))
  clear hi3 hf3 hb3 HG2 HH2 HI2 HF2
  go_upto_region 3 with (fail)
  obtain ⟨W4, hW4⟩ : ∃ W4, W4 = w3.alloc (.cells (storeV t va' vc' fva' fvc') 30) := ⟨_, rfl⟩
  have hb4 : Below w3.heap.size w3 W4 := by rw [hW4]; exact (Below.refl _ _).alloc (Nat.le_refl _) _
  have hK4 : W4.heap[w3.heap.size]? = some (.cells (storeV t va' vc' fva' fvc') 30 (0, 0)) := by rw [hW4]; exact blk_new w3 _
  rw [← hW4]
  clear hW4
  have hH4 := (hb4.block w1.heap.size hz3).trans HH3.out
  have HB4 := Lib.hid (HB3.out.trans (hb4.mono HB3.out.size))
  have HI4 := Lib.hid (HI3.out.keep (Below.keeps hb4) (fun _ _ h => h))
  have HF4 := Lib.hid (HF3.out.keep (Below.keeps hb4) (PageR.keep (Below.keeps hb4)))
  have HI5 := Lib.hid (HI2'.out.keep (Below.keeps hb4) (fun _ _ h => h))
  have HF5 := Lib.hid (HF2'.out.keep (Below.keeps hb4) (PageR.keep (Below.keeps hb4)))
  clear hb4 HI3 HF3 HI2' HF2' HH3
  have p0 : W4.cell? ⟨w1.heap.size, 0, none⟩ = some (.int .i64 t.clock) := by rw [cell_of_row W4 _ _ _ _ _ hH4]; rfl
  have p1 : W4.cell? ⟨w1.heap.size, 1, none⟩ = some (.int .i64 t.cas) := by rw [cell_of_row W4 _ _ _ _ _ hH4]; rfl
  have p2 : W4.cell? ⟨w1.heap.size, 2, none⟩ = some (.int .i64 t.uses) := by rw [cell_of_row W4 _ _ _ _ _ hH4]; rfl
  have p3 : W4.cell? ⟨w1.heap.size, 3, none⟩ = some (.int .i64 t.most) := by rw [cell_of_row W4 _ _ _ _ _ hH4]; rfl
  have p4 : W4.cell? ⟨w1.heap.size, 4, none⟩ = some (.int .i64 t.h0) := by rw [cell_of_row W4 _ _ _ _ _ hH4]; rfl
  have p5 : W4.cell? ⟨w1.heap.size, 5, none⟩ = some (.int .i64 t.h1) := by rw [cell_of_row W4 _ _ _ _ _ hH4]; rfl
  have p6 : W4.cell? ⟨w1.heap.size, 6, none⟩ = some (.int .i64 t.h2) := by rw [cell_of_row W4 _ _ _ _ _ hH4]; rfl
  have p7 : W4.cell? ⟨w1.heap.size, 7, none⟩ = some (.int .i64 t.h3) := by rw [cell_of_row W4 _ _ _ _ _ hH4]; rfl
  have p8 : W4.cell? ⟨w1.heap.size, 8, none⟩ = some (.slice va t.items.length vc) := by rw [cell_of_row W4 _ _ _ _ _ hH4]; rfl
  have p9 : W4.cell? ⟨w1.heap.size, 9, none⟩ = some (.int .i64 t.flash.most) := by rw [cell_of_row W4 _ _ _ _ _ hH4]; rfl
  have p10 : W4.cell? ⟨w1.heap.size, 10, none⟩ = some (.int .i64 t.flash.next) := by rw [cell_of_row W4 _ _ _ _ _ hH4]; rfl
  have p11 : W4.cell? ⟨w1.heap.size, 11, none⟩ = some (.slice fva t.flash.pages.length fvc) := by rw [cell_of_row W4 _ _ _ _ _ hH4]; rfl
  have q0 : W4.cell? ⟨w3.heap.size, 0, none⟩ = some (.int .i64 t.clock) := by rw [cell_of_row W4 _ _ _ _ _ hK4]; rfl
  have q1 : W4.cell? ⟨w3.heap.size, 1, none⟩ = some (.int .i64 t.cas) := by rw [cell_of_row W4 _ _ _ _ _ hK4]; rfl
  have q2 : W4.cell? ⟨w3.heap.size, 2, none⟩ = some (.int .i64 t.uses) := by rw [cell_of_row W4 _ _ _ _ _ hK4]; rfl
  have q3 : W4.cell? ⟨w3.heap.size, 3, none⟩ = some (.int .i64 t.most) := by rw [cell_of_row W4 _ _ _ _ _ hK4]; rfl
  have q4 : W4.cell? ⟨w3.heap.size, 4, none⟩ = some (.int .i64 t.h0) := by rw [cell_of_row W4 _ _ _ _ _ hK4]; rfl
  have q5 : W4.cell? ⟨w3.heap.size, 5, none⟩ = some (.int .i64 t.h1) := by rw [cell_of_row W4 _ _ _ _ _ hK4]; rfl
  have q6 : W4.cell? ⟨w3.heap.size, 6, none⟩ = some (.int .i64 t.h2) := by rw [cell_of_row W4 _ _ _ _ _ hK4]; rfl
  have q7 : W4.cell? ⟨w3.heap.size, 7, none⟩ = some (.int .i64 t.h3) := by rw [cell_of_row W4 _ _ _ _ _ hK4]; rfl
  have q8 : W4.cell? ⟨w3.heap.size, 8, none⟩ = some (.slice va' t.items.length vc') := by rw [cell_of_row W4 _ _ _ _ _ hK4]; rfl
  have q9 : W4.cell? ⟨w3.heap.size, 9, none⟩ = some (.int .i64 t.flash.most) := by rw [cell_of_row W4 _ _ _ _ _ hK4]; rfl
  have q10 : W4.cell? ⟨w3.heap.size, 10, none⟩ = some (.int .i64 t.flash.next) := by rw [cell_of_row W4 _ _ _ _ _ hK4]; rfl
  have q11 : W4.cell? ⟨w3.heap.size, 11, none⟩ = some (.slice fva' t.flash.pages.length fvc') := by rw [cell_of_row W4 _ _ _ _ _ hK4]; rfl
  clear hH4 hK4
  go_wp2_with fail
  refine (same_store t va va' fva fva' vc vc' fvc fvc' _ HI5.out HI4.out HF5.out HF4.out (by omega) (by omega)).mono ?_
  rintro e w6 ⟨rfl, hb6⟩
  go_wp2_with fail
  go_ret
  exact ⟨rfl, HB4.out.trans (hb6.mono HB4.out.size)⟩
set_option maxRecDepth 100000 in
theorem enters {H : Type} {enc : TypeId × Value → H} {W : World} {base : Nat} {args : Array Value} {ds : List (DataW H)} {p : List MemPlace}
    (hval : ∀ (j : Nat) t v, Tryd.f5.params[j]? = some t → args[j]? = some v → Value.okWide Tryd.prog W .any base t v)
    (hA : DataW.TrodAll enc Tryd.prog W 0 (fun _ => true) true Tryd.f5.params.toList args.toList ds p) (hsz : ∀ m ∈ DataW.weightsEach Tryd.prog Tryd.f5.params.toList ds, m ≤ reachBytes) (hL : laidMetH Tryd.prog Rows.storeTicksRow.laid W) :
    Calls Tryd.prog 5 args W fun e W' => e = .returned (.bool true) ∧ Below W.heap.size W W' := by
  rw [Tryd.params5] at hA hval hsz
  obtain ⟨v0, vs0, d0, ds0, p0, q0, hargs, rfl, rfl, h0, r0⟩ := trodAll_cons hA
  obtain ⟨v1, vs1, d1, ds1, p1, q1, hargs1, rfl, rfl, h1', r1⟩ := trodAll_cons r0
  obtain ⟨rfl, rfl, rfl⟩ := trodAll_nil r1
  obtain rfl : args = #[v0, v1] := by cases args; simp_all
  obtain ⟨cs, rfl, hcs⟩ := okWide_struct Tryd.underlying30 (hval 0 30 v0 rfl rfl)
  obtain ⟨n, rfl, rfl, rfl, _⟩ := open_int Tryd.underlying3 (hval 1 3 v1 rfl rfl) h1'
  obtain ⟨fuel, hf⟩ := h0
  obtain ⟨s, _, _, _, _, _, _, _, _, a, c, fs, he, h1, h2, h3, _, _, fa, fc, hfs, h4, h5, h6⟩ := read_store hf (Wt.all hsz 0 rfl rfl)
  obtain rfl : cs = storeV s a c fa fc := by
    have : cs.toList = _ := he
    rw [hfs] at this
    cases cs; simp_all [storeV]
  have : reachBytes = 140737488351232 := rfl
  exact walk s n a fa c fc W (chunks_of hL) h3 h6 (by omega) (by omega)

set_option maxRecDepth 100000 in
theorem contract {H : Type} {enc : TypeId × Value → H} {W : World} {base : Nat} {args : Array Value} {ds gs : List (DataW H)} {before : List MemPlace}
    (hval0 : ∀ (j : Nat) t v, Tryd.f5.params[j]? = some t → args[j]? = some v → Value.okWide Tryd.prog W .any base t v)
    (hW : DataW.Whole enc Tryd.prog Tryd.f5.params.toList Rows.storeTicksSpec.vars false W args.toList ds gs before)
    (hsz0 : (DataW.weightsEach Tryd.prog (Tryd.f5.params.toList ++ []) (ds ++ gs)).all (· ≤ reachBytes) = true) (hL : laidMetH Tryd.prog Rows.storeTicksRow.laid W) :
    Calls Tryd.prog 5 args W fun e W' => ∃ v, e = .returned v ∧ Rows.storeTicksSpec.post enc Tryd.prog Tryd.f5 false true false false W args v W' := by
  have hval : ∀ (j : Nat) t v, Tryd.f5.params[j]? = some t → args[j]? = some v → Value.okWide Tryd.prog W .any base t v := hval0
  have hW' := hW
  obtain ⟨p, q, hA0, hV, rfl, hfz, hnd⟩ := hW
  have hA : DataW.TrodAll enc Tryd.prog W 0 (fun _ => true) true Tryd.f5.params.toList args.toList ds p := hA0
  obtain ⟨rfl, rfl⟩ := trodVars_none hV
  have hsz : ∀ m ∈ DataW.weightsEach Tryd.prog Tryd.f5.params.toList ds, m ≤ reachBytes := by
    have h0 := hsz0
    rw [List.append_nil, List.append_nil] at h0
    intro m hm
    simpa using List.all_eq_true.1 h0 m hm
  have hds : Rows.storeTicksSpec.fn H (ds ++ []) = { results := [.lit (.bool true)], args := ds } := by
    have hA1 := hA
    rw [Tryd.params5] at hA1
    obtain ⟨v0, vs0, d0, ds0, p0, q0, _, rfl, rfl, h0, r0⟩ := trodAll_cons hA1
    obtain ⟨v1, vs1, d1, ds1, p1, q1, _, rfl, rfl, h1, r1⟩ := trodAll_cons r0
    obtain ⟨_, rfl, rfl⟩ := trodAll_nil r1
    rfl
  refine (enters hval hA hsz hL).mono fun e W' ⟨he, hb⟩ => ⟨_, he, D.law_post rfl rfl hds (by kernel_rfl) hW' hb⟩
theorem laid_met (os : Os) : laidMet Tryd.prog Rows.storeTicksRow.laid ((D.laidWorld os).forCall (fun _ _ => 0) ⟨#[], #[.agg #[.int .i64 0, .int .i64 0, .int .i64 0, .int .i64 0, .int .i64 0, .int .i64 0, .int .i64 0, .int .i64 0, .slice none 0 0, .int .i64 0, .int .i64 0, .slice none 0 0], .int .i64 0], []⟩).memory :=
  laidMet_of_run' 12 (by kernel_rfl) (by kernel_rfl)
theorem reads (os : Os) {H : Type} (enc : TypeId × Value → H) : ∃ places, DataW.whole enc Tryd.prog ((D.laidWorld os).forCall (fun _ _ => 0) ⟨#[], #[.agg #[.int .i64 0, .int .i64 0, .int .i64 0, .int .i64 0, .int .i64 0, .int .i64 0, .int .i64 0, .int .i64 0, .slice none 0 0, .int .i64 0, .int .i64 0, .slice none 0 0], .int .i64 0], []⟩).memory Tryd.f5.params.toList Rows.storeTicksSpec.vars false (#[.agg #[.int .i64 0, .int .i64 0, .int .i64 0, .int .i64 0, .int .i64 0, .int .i64 0, .int .i64 0, .int .i64 0, .slice none 0 0, .int .i64 0, .int .i64 0, .slice none 0 0], .int .i64 0] : Array Value).toList 12 = some ([.agg [.lit (.int .i64 0), .lit (.int .i64 0), .lit (.int .i64 0), .lit (.int .i64 0), .agg [.lit (.int .i64 0), .lit (.int .i64 0), .lit (.int .i64 0), .lit (.int .i64 0)], .nil, .agg [.lit (.int .i64 0), .lit (.int .i64 0), .nil]], .lit (.int .i64 0)], [], places) :=
  ⟨[], by kernel_rfl⟩
set_option maxRecDepth 100000 in
theorem lifted (os : Os) (started : os.Started) (H : Type) (enc : TypeId × Value → H) (F : Stop.Interp) :
    ReturnsInHanded {} Tryd.checked os 5 .any ((OpenSpec.ofChange Rows.storeTicksSpec).preRow enc Tryd.prog Tryd.f5 Rows.storeTicksRow.domain false Rows.storeTicksRow.laid) (((OpenSpec.ofChange Rows.storeTicksSpec).at F).post enc Tryd.prog Tryd.f5 false true false false) := by
  obtain ⟨places, hx⟩ := reads os enc
  refine returnsInHanded_of_row (C := Tryd.checked) (s := OpenSpec.ofChange Rows.storeTicksSpec) D.own started (by kernel_rfl) Tryd.func5
    (witness_row_at (enc := enc) (C := Tryd.checked) false (D.laidWorld os) #[.agg #[.int .i64 0, .int .i64 0, .int .i64 0, .int .i64 0, .int .i64 0, .int .i64 0, .int .i64 0, .int .i64 0, .slice none 0 0, .int .i64 0, .int .i64 0, .slice none 0 0], .int .i64 0] rfl (by kernel_rfl) (by kernel_rfl) (by kernel_rfl)
      (OpenSpec.preRow_of_cond 12 hx (by kernel_rfl) (fun k hk => by cases hk) (by kernel_rfl) (laid_met os))) ?_
  intro W base args ds gs before hval hW _ _ hsz hL _ _
  exact contract hval hW hsz hL
theorem said : Rows.StoreTicksSaid :=
  OpenClaim.holds_of_cond 5 Tryd.f5 rfl rfl rfl rfl rfl rfl rfl ⟨rfl, rfl, rfl, rfl, rfl⟩ rfl rfl rfl rfl rfl (by kernel_rfl) Tryd.func5 (by kernel_rfl)
    (of_decide_eq_true (by kernel_rfl)) (by unfold Func.isWrapper; first | (rw [if_pos (by decide +kernel)]; kernel_rfl) | (rw [if_neg (by decide +kernel)]; exact ⟨rfl, rfl⟩))
    (fun os started H enc _ F => by rw [OpenClaim.pre_eq_preRow]; exact lifted os started H enc F)
theorem plain (f : FuncId) (fn : Func) (hf : Tryd.pinned.checked.prog.funcNamed "dovecote/dovecotelaw.StoreTicks" = some f) (hfn : Tryd.pinned.checked.prog.funcs[f]? = some fn) :
    false = Tryd.pinned.checked.prog.looks [] ∧ ∀ (j : Nat) t, fn.params[j]? = some t → Tryd.pinned.checked.prog.wantsStandIn t = false := by
  obtain rfl : f = 5 := Option.some.inj ((show Tryd.prog.funcNamed "dovecote/dovecotelaw.StoreTicks" = some 5 by kernel_rfl).symm.trans hf) |>.symm
  obtain rfl : fn = Tryd.f5 := (Option.some.inj (Tryd.func5.symm.trans hfn)).symm
  refine ⟨by kernel_rfl, fun j t ht => ?_⟩
  rw [Tryd.params5] at ht
  have k0 : Tryd.pinned.checked.prog.wantsStandIn 30 = false := by kernel_rfl
  have k1 : Tryd.pinned.checked.prog.wantsStandIn 3 = false := by kernel_rfl
  have hh : t = 30 ∨ t = 3 := by simpa using Array.mem_of_getElem? ht
  rcases hh with rfl | rfl
  · exact k0
  · exact k1
theorem card : Rows.StoreTicksCardSaid :=
  Claim7.holds_tied_plain_at .later [] _ _ _ _ said (fun _ h => by cases h) (by kernel_rfl) (fun _ h => by cases h) storeTicks_row_tie rfl ⟨rfl, rfl⟩ (by kernel_rfl) rfl plain (by kernel_rfl)
end Go.Proofs.YtbipegbgfdpaeaaDoor.storeTicks
