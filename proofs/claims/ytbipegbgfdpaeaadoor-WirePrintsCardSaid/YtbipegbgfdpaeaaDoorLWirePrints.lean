/-
  PROVED: 'Rows.WirePrintsCardSaid': wire.Print answers what P1.6 says, at every argument. No condition; the four tables that the call reads are tied to the program's text.
-/
import Derived.Test.YtbipegbgfdpaeaaDoorCDoorP
namespace Go.Proofs.YtbipegbgfdpaeaaDoor.wirePrints
open Go.ChangeShapes Go.WideShapes Go.ChangeAt Go.RowKit Go.Proofs.YtbipegbgfdpaeaaDoor.D
set_option maxRecDepth 100000 in
set_option maxHeartbeats 1000000 in
theorem walk (r : Reply) (a : Option Addr) (c : Nat) (w : World) (ht : D.Told w) (hp : PowTab w) (h : RowsAt w a 4 HitR r.hits) (hn1 : -9223372036854775808 ≤ r.n) (hn2 : r.n ≤ 9223372036854775807) :
    Calls Tryd.prog 8 #[.agg #[.int .i64 r.kind, .int .i64 r.n, .slice a r.hits.length c]] w fun e w' => e = .returned (.bool true) ∧ Below w.heap.size w w' := by
  have HR := Lib.hid h
  have HT := Lib.hid ht
  have HP := Lib.hid hp
  clear h ht hp
  obtain ⟨T, hT⟩ : ∃ T, T = (replyText r).1 := ⟨_, rfl⟩
  obtain ⟨E, hE⟩ : ∃ E, E = (replyText r).2 := ⟨_, rfl⟩
  have HTE : Hid ((T, E) = replyText r) := by show _ = _; rw [hT, hE]
  obtain ⟨k, hk⟩ : ∃ k, k = r.kind := ⟨_, rfl⟩
  obtain ⟨n, hn⟩ : ∃ n, n = r.n := ⟨_, rfl⟩
  obtain ⟨m, hm⟩ : ∃ m, m = r.hits.length := ⟨_, rfl⟩
  have HK := Lib.hid hk
  have HN := Lib.hid hn
  have HM := Lib.hid hm
  rw [← hn] at hn1 hn2
  rw [← hk, ← hn, ← hm]
  have K : ∀ W, Below w.heap.size w W → Calls Tryd.prog 21 #[.agg #[.int .i64 k, .int .i64 n, .slice a m c]] W (TextEnd T E W) := by
    intro W hb
    by_cases h1 : 1 ≤ k ∧ k ≤ 12
    · exact print_is r T E HTE k n m HK HN HM hn1 hn2 a c W (HR.out.keep (Below.keeps hb) (fun _ _ h => h)) (HT.out.keep (Below.keeps hb)) (HP.out.keep hb) h1
    · have := HTE.out
      rw [text_kind (by rw [← hk]; exact h1)] at this
      cases this
      exact print_kind k n m a c W h1
  have K2 : ∀ W, Below w.heap.size w W → Calls Tryd.prog 22 #[.agg #[.int .i64 k, .int .i64 n, .slice a m c]] W (TextEnd T E W) := by
    intro W hb
    by_cases h1 : 1 ≤ k ∧ k ≤ 12
    · exact rtext_is r T E HTE k n m HK HN HM hn1 hn2 a c W (HR.out.keep (Below.keeps hb) (fun _ _ h => h)) h1
    · have := HTE.out
      rw [text_kind (by rw [← hk]; exact h1)] at this
      cases this
      exact rtext_kind k n m a c W h1
  have HK1 := Lib.hid K
  have HK2 := Lib.hid K2
  clear K K2 hT hE hk hn hm
  go_enter Tryd.func8, Tryd.ntmps8
  go_wp2_with fail
  obtain ⟨W1, hW1⟩ : ∃ W1, W1 = w.alloc (.cells #[.int .i64 k, .int .i64 n, .slice a m c] 45) := ⟨_, rfl⟩
  have HB1 := Lib.hid (show Below w.heap.size w W1 by rw [hW1]; go_grown)
  have hh1 : W1.heap[w.heap.size]? = some (.cells #[.int .i64 k, .int .i64 n, .slice a m c] 45 (0, 0)) := by rw [hW1]; exact blk_new w _
  have hz1 : w.heap.size < W1.heap.size := by rw [hW1]; simp
  rw [← hW1]
  clear hW1
  refine (HK1.out _ HB1.out).mono ?_
  rintro e w2 ⟨rfl, hb2⟩
  have HB2 := Lib.hid (HB1.out.trans (hb2.mono HB1.out.size))
  have hh2 := (hb2.block w.heap.size hz1).trans hh1
  have p0 : w2.cell? ⟨w.heap.size, 0, none⟩ = some (.int .i64 k) := by rw [cell_of_row w2 _ _ _ _ _ hh2]; rfl
  have p1 : w2.cell? ⟨w.heap.size, 1, none⟩ = some (.int .i64 n) := by rw [cell_of_row w2 _ _ _ _ _ hh2]; rfl
  have p2 : w2.cell? ⟨w.heap.size, 2, none⟩ = some (.slice a m c) := by rw [cell_of_row w2 _ _ _ _ _ hh2]; rfl
  clear hb2 hh1 hh2 hz1
  go_wp2_with fail
  refine (HK2.out _ HB2.out).mono ?_
  rintro e w3 ⟨rfl, hb3⟩
  have HB3 := Lib.hid (HB2.out.trans (hb3.mono HB2.out.size))
  clear hb3
  go_wp2_with fail
  go_ret
  exact ⟨rfl, HB3.out⟩
set_option maxRecDepth 100000 in
theorem enters {H : Type} {enc : TypeId × Value → H} {W : World} {base : Nat} {args : Array Value} {ds : List (DataW H)} {p : List MemPlace}
    (hval : ∀ (j : Nat) t v, Tryd.f8.params[j]? = some t → args[j]? = some v → Value.okWide Tryd.prog W .any base t v)
    (hA : DataW.TrodAll enc Tryd.prog W 0 (fun _ => true) true Tryd.f8.params.toList args.toList ds p) (hsz : ∀ m ∈ DataW.weightsEach Tryd.prog Tryd.f8.params.toList ds, m ≤ reachBytes) (hL : laidMetH Tryd.prog Rows.wirePrintsRow.laid W) :
    Calls Tryd.prog 8 args W fun e W' => e = .returned (.bool true) ∧ Below W.heap.size W W' := by
  rw [Tryd.params8] at hA hval hsz
  obtain ⟨v0, vs0, d0, ds0, p0, q0, hargs, rfl, rfl, h0, r0⟩ := trodAll_cons hA
  obtain ⟨rfl, rfl, rfl⟩ := trodAll_nil r0
  obtain rfl : args = #[v0] := by cases args; simp_all
  obtain ⟨cs, rfl, hcs⟩ := okWide_struct Tryd.underlying45 (hval 0 45 v0 rfl rfl)
  obtain ⟨fuel, hf⟩ := h0
  obtain ⟨r, _, hn, a, c, he, h1, h2, h3⟩ := read_reply hf (Wt.all hsz 0 rfl rfl)
  obtain rfl : cs = #[.int .i64 r.kind, .int .i64 r.n, .slice a r.hits.length c] := by
    have : cs.toList = _ := he
    cases cs; simp_all [replyCells]
  exact walk r a c W (told_of hL) (pow_of hL) h3 hn.1 hn.2

set_option maxRecDepth 100000 in
theorem contract {H : Type} {enc : TypeId × Value → H} {W : World} {base : Nat} {args : Array Value} {ds gs : List (DataW H)} {before : List MemPlace}
    (hval0 : ∀ (j : Nat) t v, Tryd.f8.params[j]? = some t → args[j]? = some v → Value.okWide Tryd.prog W .any base t v)
    (hW : DataW.Whole enc Tryd.prog Tryd.f8.params.toList Rows.wirePrintsSpec.vars false W args.toList ds gs before)
    (hsz0 : (DataW.weightsEach Tryd.prog (Tryd.f8.params.toList ++ []) (ds ++ gs)).all (· ≤ reachBytes) = true) (hL : laidMetH Tryd.prog Rows.wirePrintsRow.laid W) :
    Calls Tryd.prog 8 args W fun e W' => ∃ v, e = .returned v ∧ Rows.wirePrintsSpec.post enc Tryd.prog Tryd.f8 false true false false W args v W' := by
  have hval : ∀ (j : Nat) t v, Tryd.f8.params[j]? = some t → args[j]? = some v → Value.okWide Tryd.prog W .any base t v := hval0
  have hW' := hW
  obtain ⟨p, q, hA0, hV, rfl, hfz, hnd⟩ := hW
  have hA : DataW.TrodAll enc Tryd.prog W 0 (fun _ => true) true Tryd.f8.params.toList args.toList ds p := hA0
  obtain ⟨rfl, rfl⟩ := trodVars_none hV
  have hsz : ∀ m ∈ DataW.weightsEach Tryd.prog Tryd.f8.params.toList ds, m ≤ reachBytes := by
    have h0 := hsz0
    rw [List.append_nil, List.append_nil] at h0
    intro m hm
    simpa using List.all_eq_true.1 h0 m hm
  have hds : Rows.wirePrintsSpec.fn H (ds ++ []) = { results := [.lit (.bool true)], args := ds } := by
    have hA1 := hA
    rw [Tryd.params8] at hA1
    obtain ⟨v0, vs0, d0, ds0, p0, q0, _, rfl, rfl, h0, r0⟩ := trodAll_cons hA1
    obtain ⟨_, rfl, rfl⟩ := trodAll_nil r0
    rfl
  refine (enters hval hA hsz hL).mono fun e W' ⟨he, hb⟩ => ⟨_, he, D.law_post rfl rfl hds (by kernel_rfl) hW' hb⟩
theorem laid_met (os : Os) : laidMet Tryd.prog Rows.wirePrintsRow.laid ((D.laidWorldP os).forCall (fun _ _ => 0) ⟨#[], #[.agg #[.int .i64 0, .int .i64 0, .slice none 0 0]], []⟩).memory :=
  laidMet_of_run' 12 (by kernel_rfl) (by kernel_rfl)
theorem reads (os : Os) {H : Type} (enc : TypeId × Value → H) : ∃ places, DataW.whole enc Tryd.prog ((D.laidWorldP os).forCall (fun _ _ => 0) ⟨#[], #[.agg #[.int .i64 0, .int .i64 0, .slice none 0 0]], []⟩).memory Tryd.f8.params.toList Rows.wirePrintsSpec.vars false (#[.agg #[.int .i64 0, .int .i64 0, .slice none 0 0]] : Array Value).toList 12 = some ([.agg [.lit (.int .i64 0), .lit (.int .i64 0), .nil]], [], places) :=
  ⟨[], by kernel_rfl⟩
set_option maxRecDepth 100000 in
theorem lifted (os : Os) (started : os.Started) (H : Type) (enc : TypeId × Value → H) (F : Stop.Interp) :
    ReturnsInHanded {} Tryd.checked os 8 .any ((OpenSpec.ofChange Rows.wirePrintsSpec).preRow enc Tryd.prog Tryd.f8 Rows.wirePrintsRow.domain false Rows.wirePrintsRow.laid) (((OpenSpec.ofChange Rows.wirePrintsSpec).at F).post enc Tryd.prog Tryd.f8 false true false false) := by
  obtain ⟨places, hx⟩ := reads os enc
  refine returnsInHanded_of_row (C := Tryd.checked) (s := OpenSpec.ofChange Rows.wirePrintsSpec) D.own started (by kernel_rfl) Tryd.func8
    (witness_row_at (enc := enc) (C := Tryd.checked) false (D.laidWorldP os) #[.agg #[.int .i64 0, .int .i64 0, .slice none 0 0]] rfl (by kernel_rfl) (by kernel_rfl) (by kernel_rfl)
      (OpenSpec.preRow_of_cond 12 hx (by kernel_rfl) (fun k hk => by cases hk) (by kernel_rfl) (laid_met os))) ?_
  intro W base args ds gs before hval hW _ _ hsz hL _ _
  exact contract hval hW hsz hL
theorem said : Rows.WirePrintsSaid :=
  OpenClaim.holds_of_cond 8 Tryd.f8 rfl rfl rfl rfl rfl rfl rfl ⟨rfl, rfl, rfl, rfl, rfl⟩ rfl rfl rfl rfl rfl (by kernel_rfl) Tryd.func8 (by kernel_rfl)
    (of_decide_eq_true (by kernel_rfl)) (by unfold Func.isWrapper; first | (rw [if_pos (by decide +kernel)]; kernel_rfl) | (rw [if_neg (by decide +kernel)]; exact ⟨rfl, rfl⟩))
    (fun os started H enc _ F => by rw [OpenClaim.pre_eq_preRow]; exact lifted os started H enc F)
theorem plain (f : FuncId) (fn : Func) (hf : Tryd.pinned.checked.prog.funcNamed "dovecote/dovecotelaw.WirePrints" = some f) (hfn : Tryd.pinned.checked.prog.funcs[f]? = some fn) :
    false = Tryd.pinned.checked.prog.looks [] ∧ ∀ (j : Nat) t, fn.params[j]? = some t → Tryd.pinned.checked.prog.wantsStandIn t = false := by
  obtain rfl : f = 8 := Option.some.inj ((show Tryd.prog.funcNamed "dovecote/dovecotelaw.WirePrints" = some 8 by kernel_rfl).symm.trans hf) |>.symm
  obtain rfl : fn = Tryd.f8 := (Option.some.inj (Tryd.func8.symm.trans hfn)).symm
  refine ⟨by kernel_rfl, fun j t ht => ?_⟩
  rw [Tryd.params8] at ht
  obtain rfl : t = 45 := by simpa using Array.mem_of_getElem? ht
  kernel_rfl
theorem card : Rows.WirePrintsCardSaid :=
  Claim7.holds_tied_plain_at .later [] _ _ _ _ said (fun _ h => by cases h) (by kernel_rfl) (fun _ h => by cases h) wirePrints_row_tie rfl ⟨rfl, rfl⟩ (by kernel_rfl) rfl plain (by kernel_rfl)
end Go.Proofs.YtbipegbgfdpaeaaDoor.wirePrints
