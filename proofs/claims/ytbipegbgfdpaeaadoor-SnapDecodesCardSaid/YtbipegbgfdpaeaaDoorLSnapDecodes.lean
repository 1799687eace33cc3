/-
  PROVED: 'Rows.SnapDecodesCardSaid': snap.Decode answers what P4.4 says, at every argument. No condition; the table of chunks is tied to the program's text.
-/
import Derived.Test.YtbipegbgfdpaeaaDoorCDecLaw
import Derived.Test.YtbipegbgfdpaeaaDoorCRDec
namespace Go.Proofs.YtbipegbgfdpaeaaDoor.snapDecodes
open Go.ChangeShapes Go.WideShapes Go.ChangeAt Go.RowKit Go.Proofs.YtbipegbgfdpaeaaDoor.D

theorem decr_is (l : Str) (n : Nat) (t : Store) (m : Int) (hn : Hid (n = l.length)) (ht : Hid ((t, m) = D.decode l)) (a : Option Addr) (c : Nat) (w : World) (hB : BytesAt w a l) (h1 : n ≤ c) (h2 : c ≤ 9223372036854775807) :
    Calls Tryd.prog 20 #[.slice a n c] w (OutStore t m w) := by
  have hn := hn.out
  subst hn
  have := ref_StoreOf l a c w hB h1 h2
  rwa [← ht.out] at this
set_option maxRecDepth 100000 in
set_option maxHeartbeats 2000000 in
theorem walk (l : Str) (a : Option Addr) (c : Nat) (w : World) (hch : Chunks w) (hB : BytesAt w a l) (hc1 : l.length ≤ c) (hc2 : c ≤ 140737488351232) :
    Calls Tryd.prog 7 #[.slice a l.length c] w fun e w' => e = .returned (.bool true) ∧ Below w.heap.size w w' := by
  have HBY := Lib.hid hB
  have HCH := Lib.hid hch
  clear hB hch
  have hb := decode_b l
  obtain ⟨r, hr⟩ : ∃ r, r = D.decode l := ⟨_, rfl⟩
  rw [← hr] at hb
  obtain ⟨t, m⟩ := r
  have HR := Lib.hid hr
  clear hr
  simp only at hb
  obtain ⟨l1, l2⟩ := hb
  obtain ⟨n, hn⟩ : ∃ n, n = l.length := ⟨_, rfl⟩
  rw [← hn] at hc1 ⊢
  have HN := Lib.hid hn
  have hnb : n ≤ 140737488355328 := by omega
  clear hn
  go_enter Tryd.func7, Tryd.ntmps7
  go_wp2_with (at_builtin; go_must (refine list_bytes _ rfl (.const (.slice none 0 0)) (.tmp 8) rfl c n a l HN rfl rfl HBY.out hnb ?_))
  intro ua uc W0 hu hu1 hu2 hbl
  have HU := Lib.hid hu
  have HB0 := Lib.hid hbl
  clear hu hbl
  go_wp2_with fail
  refine (decode_is l n t m HN HR ua uc _ HU.out hu1 hu2 (HCH.out.keep (Below.keeps HB0.out))).mono ?_
  rintro e w1 ⟨va, vc, fva, fvc, rfl, hi1, hf1, hb1⟩
  have HI1 := Lib.hid hi1
  have HF1 := Lib.hid hf1
  have HB1 := Lib.hid (HB0.out.trans (hb1.mono HB0.out.size))
  clear hi1 hf1 hb1
  go_upto_region 2 with (fail)
  obtain ⟨W2, hW2⟩ : ∃ W2, W2 = w1.alloc (.cells (storeV t va vc fva fvc) 30) := ⟨_, rfl⟩
  have hz2 : w1.heap.size < W2.heap.size := by rw [hW2]; simp
  have hb2 : Below w1.heap.size w1 W2 := by rw [hW2]; exact (Below.refl _ _).alloc (Nat.le_refl _) _
  have HH2 : Hid (W2.heap[w1.heap.size]? = some (.cells (storeV t va vc fva fvc) 30 (0, 0))) := by show _ = _; rw [hW2]; exact blk_new w1 _
  rw [← hW2]
  clear hW2
  have HB2 := Lib.hid (HB1.out.trans (hb2.mono HB1.out.size))
  have HI2 := Lib.hid (HI1.out.keep (Below.keeps hb2) (fun _ _ h => h))
  have HF2 := Lib.hid (HF1.out.keep (Below.keeps hb2) (PageR.keep (Below.keeps hb2)))
  clear hb2 HI1 HF1
  go_wp2_with fail
  refine (decr_is l n t m HN HR a c _ (HBY.out.keep (Below.keeps HB2.out)) hc1 (by omega)).mono ?_
  rintro e w3 ⟨va', vc', fva', fvc', rfl, hi3, hf3, hb3⟩
  have HI3 := Lib.hid hi3
  have HF3 := Lib.hid hf3
  have hz3 : w1.heap.size < w3.heap.size := by have := hb3.size; omega
  have HH3 := Lib.hid ((hb3.block w1.heap.size hz2).trans HH2.out)
  have HB3 := Lib.hid (HB2.out.trans (hb3.mono HB2.out.size))
  have HI2' := Lib.hid (HI2.out.keep (Below.keeps hb3) (fun _ _ h => h))
  have HF2' := Lib.hid (HF2.out.keep (Below.keeps hb3) (PageR.keep (Below.keeps hb3)))
  clear hi3 hf3 hb3 HH2 HI2 HF2
  go_upto_region 3 with (fail)
  obtain ⟨W4, hW4⟩ : ∃ W4, W4 = w3.alloc (.cells (storeV t va' vc' fva' fvc') 30) := ⟨_, rfl⟩
  have hb4 : Below w3.heap.size w3 W4 := by rw [hW4]; exact (Below.refl _ _).alloc (Nat.le_refl _) _
  have hK4 : W4.heap[w3.heap.size]? = some (.cells (storeV t va' vc' fva' fvc') 30 (0, 0)) := by rw [hW4]; exact blk_new w3 _
  rw [← hW4]
  clear hW4
  have hH4 := (hb4.block w1.heap.size hz3).trans HH3.out
  have HB4 := Lib.hid (HB3.out.trans (hb4.mono HB3.out.size))
  have HI4 := Lib.hid (HI3.out.keep (Below.keeps hb4) (fun _ _ h => h))
  have HF4 := Lib.hid (HF3.out.keep (Below.keeps hb4) (PageR.keep (Below.keeps hb4)))
  have HI5 := Lib.hid (HI2'.out.keep (Below.keeps hb4) (fun _ _ h => h))
  have HF5 := Lib.hid (HF2'.out.keep (Below.keeps hb4) (PageR.keep (Below.keeps hb4)))
  clear hb4 HI3 HF3 HI2' HF2' HH3
  have p0 : W4.cell? ⟨w1.heap.size, 0, none⟩ = some (.int .i64 t.clock) := by rw [cell_of_row W4 _ _ _ _ _ hH4]; rfl
  have p1 : W4.cell? ⟨w1.heap.size, 1, none⟩ = some (.int .i64 t.cas) := by rw [cell_of_row W4 _ _ _ _ _ hH4]; rfl
  have p2 : W4.cell? ⟨w1.heap.size, 2, none⟩ = some (.int .i64 t.uses) := by rw [cell_of_row W4 _ _ _ _ _ hH4]; rfl
  have p3 : W4.cell? ⟨w1.heap.size, 3, none⟩ = some (.int .i64 t.most) := by rw [cell_of_row W4 _ _ _ _ _ hH4]; rfl
  have p4 : W4.cell? ⟨w1.heap.size, 4, none⟩ = some (.int .i64 t.h0) := by rw [cell_of_row W4 _ _ _ _ _ hH4]; rfl
  have p5 : W4.cell? ⟨w1.heap.size, 5, none⟩ = some (.int .i64 t.h1) := by rw [cell_of_row W4 _ _ _ _ _ hH4]; rfl
  have p6 : W4.cell? ⟨w1.heap.size, 6, none⟩ = some (.int .i64 t.h2) := by rw [cell_of_row W4 _ _ _ _ _ hH4]; rfl
  have p7 : W4.cell? ⟨w1.heap.size, 7, none⟩ = some (.int .i64 t.h3) := by rw [cell_of_row W4 _ _ _ _ _ hH4]; rfl
  have p8 : W4.cell? ⟨w1.heap.size, 8, none⟩ = some (.slice va t.items.length vc) := by rw [cell_of_row W4 _ _ _ _ _ hH4]; rfl
  have p9 : W4.cell? ⟨w1.heap.size, 9, none⟩ = some (.int .i64 t.flash.most) := by rw [cell_of_row W4 _ _ _ _ _ hH4]; rfl
  have p10 : W4.cell? ⟨w1.heap.size, 10, none⟩ = some (.int .i64 t.flash.next) := by rw [cell_of_row W4 _ _ _ _ _ hH4]; rfl
  have p11 : W4.cell? ⟨w1.heap.size, 11, none⟩ = some (.slice fva t.flash.pages.length fvc) := by rw [cell_of_row W4 _ _ _ _ _ hH4]; rfl
  have q0 : W4.cell? ⟨w3.heap.size, 0, none⟩ = some (.int .i64 t.clock) := by rw [cell_of_row W4 _ _ _ _ _ hK4]; rfl
  have q1 : W4.cell? ⟨w3.heap.size, 1, none⟩ = some (.int .i64 t.cas) := by rw [cell_of_row W4 _ _ _ _ _ hK4]; rfl
  have q2 : W4.cell? ⟨w3.heap.size, 2, none⟩ = some (.int .i64 t.uses) := by rw [cell_of_row W4 _ _ _ _ _ hK4]; rfl
  have q3 : W4.cell? ⟨w3.heap.size, 3, none⟩ = some (.int .i64 t.most) := by rw [cell_of_row W4 _ _ _ _ _ hK4]; rfl
  have q4 : W4.cell? ⟨w3.heap.size, 4, none⟩ = some (.int .i64 t.h0) := by rw [cell_of_row W4 _ _ _ _ _ hK4]; rfl
  have q5 : W4.cell? ⟨w3.heap.size, 5, none⟩ = some (.int .i64 t.h1) := by rw [cell_of_row W4 _ _ _ _ _ hK4]; rfl
  have q6 : W4.cell? ⟨w3.heap.size, 6, none⟩ = some (.int .i64 t.h2) := by rw [cell_of_row W4 _ _ _ _ _ hK4]; rfl
  have q7 : W4.cell? ⟨w3.heap.size, 7, none⟩ = some (.int .i64 t.h3) := by rw [cell_of_row W4 _ _ _ _ _ hK4]; rfl
  have q8 : W4.cell? ⟨w3.heap.size, 8, none⟩ = some (.slice va' t.items.length vc') := by rw [cell_of_row W4 _ _ _ _ _ hK4]; rfl
  have q9 : W4.cell? ⟨w3.heap.size, 9, none⟩ = some (.int .i64 t.flash.most) := by rw [cell_of_row W4 _ _ _ _ _ hK4]; rfl
  have q10 : W4.cell? ⟨w3.heap.size, 10, none⟩ = some (.int .i64 t.flash.next) := by rw [cell_of_row W4 _ _ _ _ _ hK4]; rfl
  have q11 : W4.cell? ⟨w3.heap.size, 11, none⟩ = some (.slice fva' t.flash.pages.length fvc') := by rw [cell_of_row W4 _ _ _ _ _ hK4]; rfl
  clear hH4 hK4
  go_wp2_with fail
  refine (same_store t va va' fva fva' vc vc' fvc fvc' _ HI5.out HI4.out HF5.out HF4.out (by omega) (by omega)).mono ?_
  rintro e w6 ⟨rfl, hb6⟩
  go_wp2_with fail
  go_ret
  exact ⟨rfl, HB4.out.trans (hb6.mono HB4.out.size)⟩
set_option maxRecDepth 100000 in
theorem enters {H : Type} {enc : TypeId × Value → H} {W : World} {base : Nat} {args : Array Value} {ds : List (DataW H)} {p : List MemPlace}
    (hval : ∀ (j : Nat) t v, Tryd.f7.params[j]? = some t → args[j]? = some v → Value.okWide Tryd.prog W .any base t v)
    (hA : DataW.TrodAll enc Tryd.prog W 0 (fun _ => true) true Tryd.f7.params.toList args.toList ds p) (hsz : ∀ m ∈ DataW.weightsEach Tryd.prog Tryd.f7.params.toList ds, m ≤ reachBytes) (hL : laidMetH Tryd.prog Rows.snapDecodesRow.laid W) :
    Calls Tryd.prog 7 args W fun e W' => e = .returned (.bool true) ∧ Below W.heap.size W W' := by
  rw [Tryd.params7] at hA hval hsz
  obtain ⟨v0, vs0, d0, ds0, p0, q0, hargs, rfl, rfl, h0, r0⟩ := trodAll_cons hA
  obtain ⟨rfl, rfl, rfl⟩ := trodAll_nil r0
  obtain rfl : args = #[v0] := by cases args; simp_all
  obtain ⟨a0, n0, c0, rfl⟩ := okWide_slice Tryd.underlying38 (hval 0 38 v0 rfl rfl)
  obtain ⟨fuel, hf⟩ := h0
  obtain ⟨a, c, l, he, h1, h2, h3⟩ := read_bytes (v := .slice a0 n0 c0) hf (Wt.all hsz 0 rfl rfl)
  cases he
  have : reachBytes = 140737488351232 := rfl
  exact walk l a0 c0 W (chunks_of hL) h3 h1 (by omega)

set_option maxRecDepth 100000 in
theorem contract {H : Type} {enc : TypeId × Value → H} {W : World} {base : Nat} {args : Array Value} {ds gs : List (DataW H)} {before : List MemPlace}
    (hval0 : ∀ (j : Nat) t v, Tryd.f7.params[j]? = some t → args[j]? = some v → Value.okWide Tryd.prog W .any base t v)
    (hW : DataW.Whole enc Tryd.prog Tryd.f7.params.toList Rows.snapDecodesSpec.vars false W args.toList ds gs before)
    (hsz0 : (DataW.weightsEach Tryd.prog (Tryd.f7.params.toList ++ []) (ds ++ gs)).all (· ≤ reachBytes) = true) (hL : laidMetH Tryd.prog Rows.snapDecodesRow.laid W) :
    Calls Tryd.prog 7 args W fun e W' => ∃ v, e = .returned v ∧ Rows.snapDecodesSpec.post enc Tryd.prog Tryd.f7 false true false false W args v W' := by
  have hval : ∀ (j : Nat) t v, Tryd.f7.params[j]? = some t → args[j]? = some v → Value.okWide Tryd.prog W .any base t v := hval0
  have hW' := hW
  obtain ⟨p, q, hA0, hV, rfl, hfz, hnd⟩ := hW
  have hA : DataW.TrodAll enc Tryd.prog W 0 (fun _ => true) true Tryd.f7.params.toList args.toList ds p := hA0
  obtain ⟨rfl, rfl⟩ := trodVars_none hV
  have hsz : ∀ m ∈ DataW.weightsEach Tryd.prog Tryd.f7.params.toList ds, m ≤ reachBytes := by
    have h0 := hsz0
    rw [List.append_nil, List.append_nil] at h0
    intro m hm
    simpa using List.all_eq_true.1 h0 m hm
  have hds : Rows.snapDecodesSpec.fn H (ds ++ []) = { results := [.lit (.bool true)], args := ds } := by
    have hA1 := hA
    rw [Tryd.params7] at hA1
    obtain ⟨v0, vs0, d0, ds0, p0, q0, _, rfl, rfl, h0, r0⟩ := trodAll_cons hA1
    obtain ⟨_, rfl, rfl⟩ := trodAll_nil r0
    rfl
  refine (enters hval hA hsz hL).mono fun e W' ⟨he, hb⟩ => ⟨_, he, D.law_post rfl rfl hds (by kernel_rfl) hW' hb⟩
theorem laid_met (os : Os) : laidMet Tryd.prog Rows.snapDecodesRow.laid ((D.laidWorld os).forCall (fun _ _ => 0) ⟨#[], #[.slice none 0 0], []⟩).memory :=
  laidMet_of_run' 12 (by kernel_rfl) (by kernel_rfl)
theorem reads (os : Os) {H : Type} (enc : TypeId × Value → H) : ∃ places, DataW.whole enc Tryd.prog ((D.laidWorld os).forCall (fun _ _ => 0) ⟨#[], #[.slice none 0 0], []⟩).memory Tryd.f7.params.toList Rows.snapDecodesSpec.vars false (#[.slice none 0 0] : Array Value).toList 12 = some ([.nil], [], places) :=
  ⟨[], by kernel_rfl⟩
set_option maxRecDepth 100000 in
theorem lifted (os : Os) (started : os.Started) (H : Type) (enc : TypeId × Value → H) (F : Stop.Interp) :
    ReturnsInHanded {} Tryd.checked os 7 .any ((OpenSpec.ofChange Rows.snapDecodesSpec).preRow enc Tryd.prog Tryd.f7 Rows.snapDecodesRow.domain false Rows.snapDecodesRow.laid) (((OpenSpec.ofChange Rows.snapDecodesSpec).at F).post enc Tryd.prog Tryd.f7 false true false false) := by
  obtain ⟨places, hx⟩ := reads os enc
  refine returnsInHanded_of_row (C := Tryd.checked) (s := OpenSpec.ofChange Rows.snapDecodesSpec) D.own started (by kernel_rfl) Tryd.func7
    (witness_row_at (enc := enc) (C := Tryd.checked) false (D.laidWorld os) #[.slice none 0 0] rfl (by kernel_rfl) (by kernel_rfl) (by kernel_rfl)
      (OpenSpec.preRow_of_cond 12 hx (by kernel_rfl) (fun k hk => by cases hk) (by kernel_rfl) (laid_met os))) ?_
  intro W base args ds gs before hval hW _ _ hsz hL _ _
  exact contract hval hW hsz hL
theorem said : Rows.SnapDecodesSaid :=
  OpenClaim.holds_of_cond 7 Tryd.f7 rfl rfl rfl rfl rfl rfl rfl ⟨rfl, rfl, rfl, rfl, rfl⟩ rfl rfl rfl rfl rfl (by kernel_rfl) Tryd.func7 (by kernel_rfl)
    (of_decide_eq_true (by kernel_rfl)) (by unfold Func.isWrapper; first | (rw [if_pos (by decide +kernel)]; kernel_rfl) | (rw [if_neg (by decide +kernel)]; exact ⟨rfl, rfl⟩))
    (fun os started H enc _ F => by rw [OpenClaim.pre_eq_preRow]; exact lifted os started H enc F)
theorem plain (f : FuncId) (fn : Func) (hf : Tryd.pinned.checked.prog.funcNamed "dovecote/dovecotelaw.SnapDecodes" = some f) (hfn : Tryd.pinned.checked.prog.funcs[f]? = some fn) :
    false = Tryd.pinned.checked.prog.looks [] ∧ ∀ (j : Nat) t, fn.params[j]? = some t → Tryd.pinned.checked.prog.wantsStandIn t = false := by
  obtain rfl : f = 7 := Option.some.inj ((show Tryd.prog.funcNamed "dovecote/dovecotelaw.SnapDecodes" = some 7 by kernel_rfl).symm.trans hf) |>.symm
  obtain rfl : fn = Tryd.f7 := (Option.some.inj (Tryd.func7.symm.trans hfn)).symm
  refine ⟨by kernel_rfl, fun j t ht => ?_⟩
  rw [Tryd.params7] at ht
  obtain rfl : t = 38 := by simpa using Array.mem_of_getElem? ht
  kernel_rfl
theorem card : Rows.SnapDecodesCardSaid :=
  Claim7.holds_tied_plain_at .later [] _ _ _ _ said (fun _ h => by cases h) (by kernel_rfl) (fun _ h => by cases h) snapDecodes_row_tie rfl ⟨rfl, rfl⟩ (by kernel_rfl) rfl plain (by kernel_rfl)
end Go.Proofs.YtbipegbgfdpaeaaDoor.snapDecodes
