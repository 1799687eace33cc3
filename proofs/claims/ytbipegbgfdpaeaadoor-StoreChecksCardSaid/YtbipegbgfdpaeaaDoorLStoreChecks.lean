/-
  PROVED: 'Rows.StoreChecksCardSaid': store.Check answers what P3.3 says, at every argument. No condition; the table of chunks is tied to the program's text.
-/
import Derived.Test.YtbipegbgfdpaeaaDoorCDoor
import Derived.Test.YtbipegbgfdpaeaaDoorCSMay
namespace Go.Proofs.YtbipegbgfdpaeaaDoor.storeChecks
open Go.ChangeShapes Go.WideShapes Go.ChangeAt Go.RowKit Go.Proofs.YtbipegbgfdpaeaaDoor.D

theorem smay_is (s : Store) (t : Bool) (ht : Hid (s.ok = t)) (a fa : Option Addr) (c fc : Nat) (w : World) (hI : RowsAt w a 9 ItemR s.items) (hF : RowsAt w fa 2 (PageR w) s.flash.pages) (hl : s.items.length ≤ 9223372036854775806) (hfl : s.flash.pages.length ≤ 9223372036854775807) :
    Calls Tryd.prog 13 #[.agg (storeV s a c fa fc)] w fun e w' => e = .returned (.bool t) ∧ Below w.heap.size w w' := by
  refine (ref_StoreMay s a fa c fc w hI hF hl hfl).mono ?_
  rintro e w' ⟨rfl, hb⟩
  exact ⟨by rw [ht.out], hb⟩
theorem scheck_is (s : Store) (n : Int) (hn : Hid (s.chk = n)) (a fa : Option Addr) (c fc : Nat) (w : World) (hc : Chunks w) (hI : RowsAt w a 9 ItemR s.items) (hF : RowsAt w fa 2 (PageR w) s.flash.pages) (hl : s.items.length ≤ 9223372036854775806) (hfl : s.flash.pages.length ≤ 9223372036854775807) :
    Calls Tryd.prog 12 #[.agg (storeV s a c fa fc)] w fun e w' => e = .returned (.int .i64 n) ∧ Below w.heap.size w w' := by
  refine (store_Check s a fa c fc w hc hI hF (by omega) hfl).mono ?_
  rintro e w' ⟨rfl, hb⟩
  exact ⟨by rw [hn.out], hb⟩
set_option maxHeartbeats 1000000 in
theorem walk (s : Store) (a fa : Option Addr) (c fc : Nat) (w : World) (hch : Chunks w) (h : RowsAt w a 9 ItemR s.items) (hf : RowsAt w fa 2 (PageR w) s.flash.pages) (hl : s.items.length ≤ 9223372036854775806) (hfl : s.flash.pages.length ≤ 9223372036854775807) :
    Calls Tryd.prog 4 #[.agg (storeV s a c fa fc)] w fun e w' => e = .returned (.bool true) ∧ Below w.heap.size w w' := by
  have HI := Lib.hid h
  have HF := Lib.hid hf
  have HCH := Lib.hid hch
  clear h hf hch
  cases hok : s.ok
  ·
    have HO := Lib.hid hok
    have HN : Hid (s.chk = 8) := by show _ = _; unfold Store.chk; rw [hok]; rfl
    clear hok
    go_enter Tryd.func4, Tryd.ntmps4
    go_wp2_with fail
    refine (scheck_is s 8 HN a fa c fc _ ?_ ?_ ?_ hl hfl).mono ?_
    · exact HCH.out.keep (Below.keeps (by go_grown))
    · exact HI.out.keep (Below.keeps (by go_grown)) (fun _ _ h => h)
    · exact HF.out.keep (Below.keeps (by go_grown)) (PageR.keep (Below.keeps (by go_grown)))
    rintro e w1 ⟨rfl, hb⟩
    obtain ⟨hc, hfz, hz⟩ := bcell hb
    simp only [World.size_alloc] at hc hfz hz
    have hz0 : w.heap.size < w1.heap.size := by omega
    have hbw : Below w.heap.size w w1 := Below.trans (by go_grown) (hb.mono (by go_size))
    clear hb
    go_wp2_with fail
    refine (smay_is s false HO a fa c fc _ ?_ ?_ hl hfl).mono ?_
    · exact HI.out.keep (Below.keeps (by go_grown)) (fun _ _ h => h)
    · exact HF.out.keep (Below.keeps (by go_grown)) (PageR.keep (Below.keeps (by go_grown)))
    rintro e w2 ⟨rfl, hb2⟩
    go_wp2_with fail
    go_ret
    exact ⟨rfl, hbw.trans (Below.trans (by go_grown) (hb2.mono (by go_size)))⟩
  ·
    have HO := Lib.hid hok
    have HN : Hid (s.chk = 0) := by show _ = _; unfold Store.chk; rw [hok]; rfl
    clear hok
    go_enter Tryd.func4, Tryd.ntmps4
    go_wp2_with fail
    refine (scheck_is s 0 HN a fa c fc _ ?_ ?_ ?_ hl hfl).mono ?_
    · exact HCH.out.keep (Below.keeps (by go_grown))
    · exact HI.out.keep (Below.keeps (by go_grown)) (fun _ _ h => h)
    · exact HF.out.keep (Below.keeps (by go_grown)) (PageR.keep (Below.keeps (by go_grown)))
    rintro e w1 ⟨rfl, hb⟩
    obtain ⟨hc, hfz, hz⟩ := bcell hb
    simp only [World.size_alloc] at hc hfz hz
    have hz0 : w.heap.size < w1.heap.size := by omega
    have hbw : Below w.heap.size w w1 := Below.trans (by go_grown) (hb.mono (by go_size))
    clear hb
    go_wp2_with fail
    refine (smay_is s true HO a fa c fc _ ?_ ?_ hl hfl).mono ?_
    · exact HI.out.keep (Below.keeps (by go_grown)) (fun _ _ h => h)
    · exact HF.out.keep (Below.keeps (by go_grown)) (PageR.keep (Below.keeps (by go_grown)))
    rintro e w2 ⟨rfl, hb2⟩
    go_wp2_with fail
    go_ret
    exact ⟨rfl, hbw.trans (Below.trans (by go_grown) (hb2.mono (by go_size)))⟩

set_option maxRecDepth 100000 in
theorem enters {H : Type} {enc : TypeId × Value → H} {W : World} {base : Nat} {args : Array Value} {ds : List (DataW H)} {p : List MemPlace}
    (hval : ∀ (j : Nat) t v, Tryd.f4.params[j]? = some t → args[j]? = some v → Value.okWide Tryd.prog W .any base t v)
    (hA : DataW.TrodAll enc Tryd.prog W 0 (fun _ => true) true Tryd.f4.params.toList args.toList ds p) (hsz : ∀ m ∈ DataW.weightsEach Tryd.prog Tryd.f4.params.toList ds, m ≤ reachBytes) (hL : laidMetH Tryd.prog Rows.storeChecksRow.laid W) :
    Calls Tryd.prog 4 args W fun e W' => e = .returned (.bool true) ∧ Below W.heap.size W W' := by
  rw [Tryd.params4] at hA hval hsz
  obtain ⟨v0, vs0, d0, ds0, p0, q0, hargs, rfl, rfl, h0, r0⟩ := trodAll_cons hA
  obtain ⟨rfl, rfl, rfl⟩ := trodAll_nil r0
  obtain rfl : args = #[v0] := by cases args; simp_all
  obtain ⟨cs, rfl, hcs⟩ := okWide_struct Tryd.underlying30 (hval 0 30 v0 rfl rfl)
  obtain ⟨fuel, hf⟩ := h0
  obtain ⟨s, _, _, _, _, _, _, _, _, a, c, fs, he, h1, h2, h3, _, _, fa, fc, hfs, h4, h5, h6⟩ := read_store hf (Wt.all hsz 0 rfl rfl)
  obtain rfl : cs = storeV s a c fa fc := by
    have : cs.toList = _ := he
    rw [hfs] at this
    cases cs; simp_all [storeV]
  have : reachBytes = 140737488351232 := rfl
  exact walk s a fa c fc W (chunks_of hL) h3 h6 (by omega) (by omega)

set_option maxRecDepth 100000 in
theorem contract {H : Type} {enc : TypeId × Value → H} {W : World} {base : Nat} {args : Array Value} {ds gs : List (DataW H)} {before : List MemPlace}
    (hval0 : ∀ (j : Nat) t v, Tryd.f4.params[j]? = some t → args[j]? = some v → Value.okWide Tryd.prog W .any base t v)
    (hW : DataW.Whole enc Tryd.prog Tryd.f4.params.toList Rows.storeChecksSpec.vars false W args.toList ds gs before)
    (hsz0 : (DataW.weightsEach Tryd.prog (Tryd.f4.params.toList ++ []) (ds ++ gs)).all (· ≤ reachBytes) = true) (hL : laidMetH Tryd.prog Rows.storeChecksRow.laid W) :
    Calls Tryd.prog 4 args W fun e W' => ∃ v, e = .returned v ∧ Rows.storeChecksSpec.post enc Tryd.prog Tryd.f4 false true false false W args v W' := by
  have hval : ∀ (j : Nat) t v, Tryd.f4.params[j]? = some t → args[j]? = some v → Value.okWide Tryd.prog W .any base t v := hval0
  have hW' := hW
  obtain ⟨p, q, hA0, hV, rfl, hfz, hnd⟩ := hW
  have hA : DataW.TrodAll enc Tryd.prog W 0 (fun _ => true) true Tryd.f4.params.toList args.toList ds p := hA0
  obtain ⟨rfl, rfl⟩ := trodVars_none hV
  have hsz : ∀ m ∈ DataW.weightsEach Tryd.prog Tryd.f4.params.toList ds, m ≤ reachBytes := by
    have h0 := hsz0
    rw [List.append_nil, List.append_nil] at h0
    intro m hm
    simpa using List.all_eq_true.1 h0 m hm
  have hds : Rows.storeChecksSpec.fn H (ds ++ []) = { results := [.lit (.bool true)], args := ds } := by
    have hA1 := hA
    rw [Tryd.params4] at hA1
    obtain ⟨v0, vs0, d0, ds0, p0, q0, _, rfl, rfl, h0, r0⟩ := trodAll_cons hA1
    obtain ⟨_, rfl, rfl⟩ := trodAll_nil r0
    rfl
  refine (enters hval hA hsz hL).mono fun e W' ⟨he, hb⟩ => ⟨_, he, D.law_post rfl rfl hds (by kernel_rfl) hW' hb⟩
theorem laid_met (os : Os) : laidMet Tryd.prog Rows.storeChecksRow.laid ((D.laidWorld os).forCall (fun _ _ => 0) ⟨#[], #[.agg #[.int .i64 0, .int .i64 0, .int .i64 0, .int .i64 0, .int .i64 0, .int .i64 0, .int .i64 0, .int .i64 0, .slice none 0 0, .int .i64 0, .int .i64 0, .slice none 0 0]], []⟩).memory :=
  laidMet_of_run' 12 (by kernel_rfl) (by kernel_rfl)
theorem reads (os : Os) {H : Type} (enc : TypeId × Value → H) : ∃ places, DataW.whole enc Tryd.prog ((D.laidWorld os).forCall (fun _ _ => 0) ⟨#[], #[.agg #[.int .i64 0, .int .i64 0, .int .i64 0, .int .i64 0, .int .i64 0, .int .i64 0, .int .i64 0, .int .i64 0, .slice none 0 0, .int .i64 0, .int .i64 0, .slice none 0 0]], []⟩).memory Tryd.f4.params.toList Rows.storeChecksSpec.vars false (#[.agg #[.int .i64 0, .int .i64 0, .int .i64 0, .int .i64 0, .int .i64 0, .int .i64 0, .int .i64 0, .int .i64 0, .slice none 0 0, .int .i64 0, .int .i64 0, .slice none 0 0]] : Array Value).toList 12 = some ([.agg [.lit (.int .i64 0), .lit (.int .i64 0), .lit (.int .i64 0), .lit (.int .i64 0), .agg [.lit (.int .i64 0), .lit (.int .i64 0), .lit (.int .i64 0), .lit (.int .i64 0)], .nil, .agg [.lit (.int .i64 0), .lit (.int .i64 0), .nil]]], [], places) :=
  ⟨[], by kernel_rfl⟩
set_option maxRecDepth 100000 in
theorem lifted (os : Os) (started : os.Started) (H : Type) (enc : TypeId × Value → H) (F : Stop.Interp) :
    ReturnsInHanded {} Tryd.checked os 4 .any ((OpenSpec.ofChange Rows.storeChecksSpec).preRow enc Tryd.prog Tryd.f4 Rows.storeChecksRow.domain false Rows.storeChecksRow.laid) (((OpenSpec.ofChange Rows.storeChecksSpec).at F).post enc Tryd.prog Tryd.f4 false true false false) := by
  obtain ⟨places, hx⟩ := reads os enc
  refine returnsInHanded_of_row (C := Tryd.checked) (s := OpenSpec.ofChange Rows.storeChecksSpec) D.own started (by kernel_rfl) Tryd.func4
    (witness_row_at (enc := enc) (C := Tryd.checked) false (D.laidWorld os) #[.agg #[.int .i64 0, .int .i64 0, .int .i64 0, .int .i64 0, .int .i64 0, .int .i64 0, .int .i64 0, .int .i64 0, .slice none 0 0, .int .i64 0, .int .i64 0, .slice none 0 0]] rfl (by kernel_rfl) (by kernel_rfl) (by kernel_rfl)
      (OpenSpec.preRow_of_cond 12 hx (by kernel_rfl) (fun k hk => by cases hk) (by kernel_rfl) (laid_met os))) ?_
  intro W base args ds gs before hval hW _ _ hsz hL _ _
  exact contract hval hW hsz hL
theorem said : Rows.StoreChecksSaid :=
  OpenClaim.holds_of_cond 4 Tryd.f4 rfl rfl rfl rfl rfl rfl rfl ⟨rfl, rfl, rfl, rfl, rfl⟩ rfl rfl rfl rfl rfl (by kernel_rfl) Tryd.func4 (by kernel_rfl)
    (of_decide_eq_true (by kernel_rfl)) (by unfold Func.isWrapper; first | (rw [if_pos (by decide +kernel)]; kernel_rfl) | (rw [if_neg (by decide +kernel)]; exact ⟨rfl, rfl⟩))
    (fun os started H enc _ F => by rw [OpenClaim.pre_eq_preRow]; exact lifted os started H enc F)
theorem plain (f : FuncId) (fn : Func) (hf : Tryd.pinned.checked.prog.funcNamed "dovecote/dovecotelaw.StoreChecks" = some f) (hfn : Tryd.pinned.checked.prog.funcs[f]? = some fn) :
    false = Tryd.pinned.checked.prog.looks [] ∧ ∀ (j : Nat) t, fn.params[j]? = some t → Tryd.pinned.checked.prog.wantsStandIn t = false := by
  obtain rfl : f = 4 := Option.some.inj ((show Tryd.prog.funcNamed "dovecote/dovecotelaw.StoreChecks" = some 4 by kernel_rfl).symm.trans hf) |>.symm
  obtain rfl : fn = Tryd.f4 := (Option.some.inj (Tryd.func4.symm.trans hfn)).symm
  refine ⟨by kernel_rfl, fun j t ht => ?_⟩
  rw [Tryd.params4] at ht
  obtain rfl : t = 30 := by simpa using Array.mem_of_getElem? ht
  kernel_rfl
theorem card : Rows.StoreChecksCardSaid :=
  Claim7.holds_tied_plain_at .later [] _ _ _ _ said (fun _ h => by cases h) (by kernel_rfl) (fun _ h => by cases h) storeChecks_row_tie rfl ⟨rfl, rfl⟩ (by kernel_rfl) rfl plain (by kernel_rfl)
end Go.Proofs.YtbipegbgfdpaeaaDoor.storeChecks
