/-
  PROVED: 'Rows.StoreGoodCardSaid': whatever is asked, a store stays one that may be. No condition; the tables that the call reads are tied to the program's text.
-/
import Derived.Test.YtbeegfkfpkfccaaGreatDoorYCPlay
import Derived.Test.YtbeegfkfpkfccaaGreatDoorYCDoorS
namespace Go.Proofs.YtbeegfkfpkfccaaGreatDoor.storeGood
open Go.ChangeShapes Go.WideShapes Go.ChangeAt Go.RowKit Go.Proofs.YtbeegfkfpkfccaaGreatDoor.D
def sumTo (S : Store) (k : Nat) : Int := (if 0 < k then S.h0 else 0) + (if 1 < k then S.h1 else 0) + (if 2 < k then S.h2 else 0) + (if 3 < k then S.h3 else 0)
theorem zero_chk : Store.zero.chk = 8 := by kernel_rfl
set_option maxRecDepth 100000 in
set_option maxHeartbeats 4000000 in
theorem walk (l : List (Int × Int × Int × Int)) (a : Option Addr) (c : Nat) (pg far : Int) (hpg : I64 pg) (hfar : I64 far) (w : World) (he : Env w) (h : RowsAt w a 4 rawR l) :
    Calls Tryz.prog 4 #[.slice a l.length c, .int .i64 pg, .int .i64 far] w fun e w' => e = .returned (.bool true) ∧ Below w.heap.size w w' := by
  have HE := Lib.hid he
  have HR := Lib.hid h
  clear he h
  obtain ⟨p, hp⟩ : ∃ p, pick pg 12 = p := ⟨_, rfl⟩
  have hp1 := pick_lt pg 12 (by decide)
  rw [hp] at hp1
  have HP := Lib.hid hp
  obtain ⟨f, hf⟩ : ∃ f, pick far 6 = f := ⟨_, rfl⟩
  have hf1 := pick_lt far 6 (by decide)
  rw [hf] at hf1
  have HF := Lib.hid hf
  have hpl := played_is l a c p f 80 ⟨hp1.1, by omega⟩ ⟨hf1.1, by omega⟩ (by omega) w HE.out HR.out
  rw [show ((80 : Nat) : Int) = 80 from rfl] at hpl
  have HPL := Lib.hid hpl
  obtain ⟨n, hn⟩ : ∃ n, n = l.length := ⟨_, rfl⟩
  rw [← hn] at HPL ⊢
  clear hp hf hpl hn HR
  go_enter Tryz.func4, Tryz.ntmps4
  go_wp2_with fail
  refine (picked_at pg 12 p HP hpg.1 hpg.2 (by decide) (by decide) _).mono ?_
  rintro e wd ⟨rfl, rfl⟩
  go_wp2_with fail
  refine (picked_at far 6 f HF hfar.1 hfar.2 (by decide) (by decide) _).mono ?_
  rintro e wd ⟨rfl, rfl⟩
  go_wp2_with fail
  refine HPL.out.mono ?_
  rintro e w1 ⟨S, va, vc, fa, fc, oa, ol, oc, rfl, hso, hpd, hb1⟩
  go_upto_region 2 with (fail)
  obtain ⟨W2, hW2⟩ : ∃ W2, W2 = w1.alloc (.cells (storeV S va vc fa fc) 28) := ⟨_, rfl⟩
  obtain ⟨B7, hB7⟩ : ∃ B, B = w1.heap.size := ⟨_, rfl⟩
  have r7 : W2.heap[B7]? = some (.cells (storeV S va vc fa fc) 28 (0, 0)) := by rw [hW2, hB7]; exact blk_new w1 _
  have hb2 := below_new hW2
  rw [← hW2, ← hB7]
  have HB := Lib.hid (hb1.trans (hb2.mono hb1.size))
  have HS := Lib.hid (hso.below hb2)
  have HPD := Lib.hid hpd
  have R7 := Lib.hid r7
  have HE2 := Lib.hid (HE.out.on HB.out)
  have hok := hpd.ok
  have y3 : W2.cell? ⟨B7, 3, none⟩ = some (.int .i64 S.most) := by rw [cell_of_row W2 _ _ _ _ _ r7]; rfl
  have y4 : W2.cell? ⟨B7, 4, none⟩ = some (.int .i64 S.h0) := by rw [cell_of_row W2 _ _ _ _ _ r7]; rfl
  have y5 : W2.cell? ⟨B7, 5, none⟩ = some (.int .i64 S.h1) := by rw [cell_of_row W2 _ _ _ _ _ r7]; rfl
  have y6 : W2.cell? ⟨B7, 6, none⟩ = some (.int .i64 S.h2) := by rw [cell_of_row W2 _ _ _ _ _ r7]; rfl
  have y7 : W2.cell? ⟨B7, 7, none⟩ = some (.int .i64 S.h3) := by rw [cell_of_row W2 _ _ _ _ _ r7]; rfl
  have y9 : W2.cell? ⟨B7, 9, none⟩ = some (.int .i64 S.flash.most) := by rw [cell_of_row W2 _ _ _ _ _ r7]; rfl
  have y11 : W2.cell? ⟨B7, 11, none⟩ = some (.slice fa S.flash.pages.length fc) := by rw [cell_of_row W2 _ _ _ _ _ r7]; rfl
  have b0 := hok.h0
  have b1 := hok.h1
  have b2 := hok.h2
  have b3 := hok.h3
  have bm := hok.most
  have bs := hok.sum
  have bf : (S.flash.pages.length : Int) ≤ S.flash.most := (fok_parts hok.flash).1.2.2.1
  have HCK : Hid (S.chk = 0) := by show _ = _; unfold Store.chk; rw [(ok_iff S).2 hok]; rfl
  have HZ := Lib.hid zero_chk
  clear hW2 hB7 r7 hb2 hb1 hso hpd hok HPL HP HF
  go_wp2_with fail
  go_loopw [10, 25] (fun v10 v25 wr => ∃ k : Nat, k ≤ 4 ∧ v10 = .int .i64 (sumTo S k) ∧ v25 = .int .i64 k ∧ wr = W2) (fun _ i _ => 4 - (intOf i).toNat)
  case atStart => exact ⟨0, by omega, by simp [sumTo], rfl, rfl⟩
  case round =>
    obtain ⟨k, hk, rfl, rfl, rfl⟩ := hrel
    by_cases h4 : k < 4
    ·
      have hcs : k = 0 ∨ k = 1 ∨ k = 2 ∨ k = 3 := by omega
      rcases hcs with rfl | rfl | rfl | rfl
      · have i0 : ∀ W, (Instr.index 22 (.agg #[.int .i64 S.h0, .int .i64 S.h1, .int .i64 S.h2, .int .i64 S.h3]) (.int .i64 0)).run Tryz.prog W = .ok (.int .i64 S.h0) W := fun _ => by kernel_rfl
        have e0 : wrap64 (sumTo S 0 + S.h0) = sumTo S 1 := by rw [IntWalk.wrap64_in _ ⟨by simp [sumTo]; omega, by simp [sumTo]; omega⟩]; simp [sumTo]
        go_wp2_with fail
        go_roundw
        case rel => exact ⟨1, by omega, congrArg (Value.int IntKind.i64) e0, rfl, trivial⟩
        case measure => simp [intOf]
      · have i0 : ∀ W, (Instr.index 22 (.agg #[.int .i64 S.h0, .int .i64 S.h1, .int .i64 S.h2, .int .i64 S.h3]) (.int .i64 1)).run Tryz.prog W = .ok (.int .i64 S.h1) W := fun _ => by kernel_rfl
        have e0 : wrap64 (sumTo S 1 + S.h1) = sumTo S 2 := by rw [IntWalk.wrap64_in _ ⟨by simp [sumTo]; omega, by simp [sumTo]; omega⟩]; simp [sumTo]
        go_wp2_with fail
        go_roundw
        case rel => exact ⟨2, by omega, congrArg (Value.int IntKind.i64) e0, rfl, trivial⟩
        case measure => simp [intOf]
      · have i0 : ∀ W, (Instr.index 22 (.agg #[.int .i64 S.h0, .int .i64 S.h1, .int .i64 S.h2, .int .i64 S.h3]) (.int .i64 2)).run Tryz.prog W = .ok (.int .i64 S.h2) W := fun _ => by kernel_rfl
        have e0 : wrap64 (sumTo S 2 + S.h2) = sumTo S 3 := by rw [IntWalk.wrap64_in _ ⟨by simp [sumTo]; omega, by simp [sumTo]; omega⟩]; simp [sumTo]
        go_wp2_with fail
        go_roundw
        case rel => exact ⟨3, by omega, congrArg (Value.int IntKind.i64) e0, rfl, trivial⟩
        case measure => simp [intOf]
      · have i0 : ∀ W, (Instr.index 22 (.agg #[.int .i64 S.h0, .int .i64 S.h1, .int .i64 S.h2, .int .i64 S.h3]) (.int .i64 3)).run Tryz.prog W = .ok (.int .i64 S.h3) W := fun _ => by kernel_rfl
        have e0 : wrap64 (sumTo S 3 + S.h3) = sumTo S 4 := by rw [IntWalk.wrap64_in _ ⟨by simp [sumTo]; omega, by simp [sumTo]; omega⟩]; simp [sumTo]
        go_wp2_with fail
        go_roundw
        case rel => exact ⟨4, by omega, congrArg (Value.int IntKind.i64) e0, rfl, trivial⟩
        case measure => simp [intOf]
    ·
      obtain rfl : k = 4 := by omega
      have hs4 : sumTo S 4 ≤ S.most := by simp [sumTo]; omega
      have y0 : wr.cell? ⟨B7, 0, none⟩ = some (.int .i64 S.clock) := by rw [cell_of_row wr _ _ _ _ _ R7.out]; rfl
      have y1 : wr.cell? ⟨B7, 1, none⟩ = some (.int .i64 S.cas) := by rw [cell_of_row wr _ _ _ _ _ R7.out]; rfl
      have y2 : wr.cell? ⟨B7, 2, none⟩ = some (.int .i64 S.uses) := by rw [cell_of_row wr _ _ _ _ _ R7.out]; rfl
      have y8 : wr.cell? ⟨B7, 8, none⟩ = some (.slice va S.items.length vc) := by rw [cell_of_row wr _ _ _ _ _ R7.out]; rfl
      have y10 : wr.cell? ⟨B7, 10, none⟩ = some (.int .i64 S.flash.next) := by rw [cell_of_row wr _ _ _ _ _ R7.out]; rfl
      have hl7 := (Array.getElem?_eq_some_iff.1 R7.out).1
      go_wp2_with fail
      refine (scheck_is S 0 HCK va fa vc fc wr HE2.out.chunks HS.out.at.items HS.out.at.pages (by have := HS.out.len; omega) (by have := HS.out.plen; omega)).mono ?_
      rintro e w5 ⟨rfl, hb5⟩
      have z3 : w5.cell? ⟨B7, 3, none⟩ = some (.int .i64 S.most) := by rw [cell_of_row w5 _ _ _ _ _ ((hb5.block B7 hl7).trans R7.out)]; rfl
      have z9 : w5.cell? ⟨B7, 9, none⟩ = some (.int .i64 S.flash.most) := by rw [cell_of_row w5 _ _ _ _ _ ((hb5.block B7 hl7).trans R7.out)]; rfl
      have z11 : w5.cell? ⟨B7, 11, none⟩ = some (.slice fa S.flash.pages.length fc) := by rw [cell_of_row w5 _ _ _ _ _ ((hb5.block B7 hl7).trans R7.out)]; rfl
      have HE5 := Lib.hid (HE2.out.on hb5)
      have HB5 := Lib.hid (HB.out.trans (hb5.mono HB.out.size))
      clear hb5 y0 y1 y2 y3 y4 y5 y6 y7 y8 y9 y10 y11
      go_wp2_with fail
      refine (scheck_is Store.zero 8 HZ none none 0 0 w5 HE5.out.chunks (RowsAt.nil _ _ _ _) (RowsAt.nil _ _ _ _) (by decide) (by decide)).mono ?_
      rintro e w6 ⟨rfl, hb6⟩
      have HB6 := Lib.hid (HB5.out.trans (hb6.mono HB5.out.size))
      clear hb6
      go_wp2_with fail
      go_ret
      exact ⟨rfl, HB6.out⟩
section
variable {H : Type} {enc : TypeId × Value → H} {w : World}
theorem bytes_raw : Tryz.prog.bytesOf 50 = 32 := by kernel_rfl
instance : Inhabited (Int × Int × Int × Int) := ⟨(0, 0, 0, 0)⟩
theorem read_raw {f : Nat} {cs : List Value} {y : DataW H × List MemPlace} (h : DataW.trod enc Tryz.prog w 0 (fun _ => true) true f 50 cs = some y) : ∃ r, rawR cs r := by
  obtain ⟨xs, n, _, _, hl, hx, hf⟩ := DataW.trod_struct Tryz.underlying50 h
  obtain ⟨c0, c1, c2, c3, rfl⟩ := four (hl.trans (by kernel_rfl))
  obtain ⟨y0, y1, y2, y3, rfl⟩ := four hx
  have h0 := hf 0 _ rfl
  have h1 := hf 1 _ rfl
  have h2 := hf 2 _ rfl
  have h3 := hf 3 _ rfl
  simp [cells_int] at h0 h1 h2 h3
  obtain ⟨n0, e0, b0⟩ := read_i64 Tryz.underlying3 h0
  obtain ⟨n1, e1, b1⟩ := read_i64 Tryz.underlying3 h1
  obtain ⟨n2, e2, b2⟩ := read_i64 Tryz.underlying3 h2
  obtain ⟨n3, e3, b3⟩ := read_i64 Tryz.underlying3 h3
  cases e0; cases e1; cases e2; cases e3
  exact ⟨(n0, n1, n2, n3), rfl, b0, b1, b2, b3⟩
end
set_option maxRecDepth 100000 in
theorem enters {H : Type} {enc : TypeId × Value → H} {W : World} {base : Nat} {args : Array Value} {ds : List (DataW H)} {p : List MemPlace}
    (hval : ∀ (j : Nat) t v, Tryz.f4.params[j]? = some t → args[j]? = some v → Value.okWide Tryz.prog W .any base t v)
    (hA : DataW.TrodAll enc Tryz.prog W 0 (fun _ => true) true Tryz.f4.params.toList args.toList ds p) (hsz : ∀ m ∈ DataW.weightsEach Tryz.prog Tryz.f4.params.toList ds, m ≤ reachBytes) (hL : laidMetH Tryz.prog Rows.storeGoodRow.laid W) :
    Calls Tryz.prog 4 args W fun e W' => e = .returned (.bool true) ∧ Below W.heap.size W W' := by
  rw [Tryz.params4] at hA hval hsz
  obtain ⟨v0, vs0, d0, ds0, p0, q0, hargs, rfl, rfl, h0, r0⟩ := trodAll_cons hA
  obtain ⟨v1, vs1, d1, ds1, p1, q1, hargs1, rfl, rfl, h1, r1⟩ := trodAll_cons r0
  obtain ⟨v2, vs2, d2, ds2, p2, q2, hargs2, rfl, rfl, h2, r2⟩ := trodAll_cons r1
  obtain ⟨rfl, rfl, rfl⟩ := trodAll_nil r2
  obtain rfl : args = #[v0, v1, v2] := by cases args; simp_all
  obtain ⟨a0, n0, c0, rfl⟩ := okWide_slice Tryz.underlying42 (hval 0 42 v0 rfl rfl)
  obtain ⟨fuel, hf⟩ := h0
  obtain ⟨a, len, c, l, he, hll, hlc, hcm, hrow⟩ := read_slice (v := .slice a0 n0 c0) (n := 4) rawR Tryz.underlying42 (by kernel_rfl) (by omega) (fun f cs y hy _ => read_raw hy) hf (Wt.all hsz 0 rfl rfl)
  cases he
  subst hll
  obtain ⟨b, rfl, rfl, rfl, hb⟩ := open_int Tryz.underlying3 (hval 1 3 v1 rfl rfl) h1
  obtain ⟨d, rfl, rfl, rfl, hd⟩ := open_int Tryz.underlying3 (hval 2 3 v2 rfl rfl) h2
  exact walk l a0 c0 b d (bounds_i64 hb) (bounds_i64 hd) W (env_of hL) hrow

set_option maxRecDepth 100000 in
theorem contract {H : Type} {enc : TypeId × Value → H} {W : World} {base : Nat} {args : Array Value} {ds gs : List (DataW H)} {before : List MemPlace}
    (hval0 : ∀ (j : Nat) t v, Tryz.f4.params[j]? = some t → args[j]? = some v → Value.okWide Tryz.prog W .any base t v)
    (hW : DataW.Whole enc Tryz.prog Tryz.f4.params.toList Rows.storeGoodSpec.vars false W args.toList ds gs before)
    (hsz0 : (DataW.weightsEach Tryz.prog (Tryz.f4.params.toList ++ []) (ds ++ gs)).all (· ≤ reachBytes) = true) (hL : laidMetH Tryz.prog Rows.storeGoodRow.laid W) :
    Calls Tryz.prog 4 args W fun e W' => ∃ v, e = .returned v ∧ Rows.storeGoodSpec.post enc Tryz.prog Tryz.f4 false true false false W args v W' := by
  have hval : ∀ (j : Nat) t v, Tryz.f4.params[j]? = some t → args[j]? = some v → Value.okWide Tryz.prog W .any base t v := hval0
  have hW' := hW
  obtain ⟨p, q, hA0, hV, rfl, hfz, hnd⟩ := hW
  have hA : DataW.TrodAll enc Tryz.prog W 0 (fun _ => true) true Tryz.f4.params.toList args.toList ds p := hA0
  obtain ⟨rfl, rfl⟩ := trodVars_none hV
  have hsz : ∀ m ∈ DataW.weightsEach Tryz.prog Tryz.f4.params.toList ds, m ≤ reachBytes := by
    have h0 := hsz0
    rw [List.append_nil, List.append_nil] at h0
    intro m hm
    simpa using List.all_eq_true.1 h0 m hm
  have hds : Rows.storeGoodSpec.fn H (ds ++ []) = { results := [.lit (.bool true)], args := ds } := by
    have hA1 := hA
    rw [Tryz.params4] at hA1
    obtain ⟨v0, vs0, d0, ds0, p0, q0, _, rfl, rfl, h0, r0⟩ := trodAll_cons hA1
    obtain ⟨v1, vs1, d1, ds1, p1, q1, _, rfl, rfl, h1, r1⟩ := trodAll_cons r0
    obtain ⟨v2, vs2, d2, ds2, p2, q2, _, rfl, rfl, h2, r2⟩ := trodAll_cons r1
    obtain ⟨_, rfl, rfl⟩ := trodAll_nil r2
    rfl
  refine (enters hval hA hsz hL).mono fun e W' ⟨he, hb⟩ => ⟨_, he, D.law_post rfl rfl hds (by kernel_rfl) hW' hb⟩
theorem laid_met (os : Os) : laidMet Tryz.prog Rows.storeGoodRow.laid ((D.laidWorldS os).forCall (fun _ _ => 0) ⟨#[], #[.slice none 0 0, .int .i64 0, .int .i64 0], []⟩).memory :=
  laidMet_of_run' 12 (by kernel_rfl) (by kernel_rfl)
theorem reads (os : Os) {H : Type} (enc : TypeId × Value → H) : ∃ places, DataW.whole enc Tryz.prog ((D.laidWorldS os).forCall (fun _ _ => 0) ⟨#[], #[.slice none 0 0, .int .i64 0, .int .i64 0], []⟩).memory Tryz.f4.params.toList Rows.storeGoodSpec.vars false (#[.slice none 0 0, .int .i64 0, .int .i64 0] : Array Value).toList 12 = some ([.nil, .lit (.int .i64 0), .lit (.int .i64 0)], [], places) :=
  ⟨[], by kernel_rfl⟩
set_option maxRecDepth 100000 in
theorem lifted (os : Os) (started : os.Started) (H : Type) (enc : TypeId × Value → H) (F : Stop.Interp) :
    ReturnsInHanded {} Tryz.checked os 4 .any ((OpenSpec.ofChange Rows.storeGoodSpec).preRow enc Tryz.prog Tryz.f4 Rows.storeGoodRow.domain false Rows.storeGoodRow.laid) (((OpenSpec.ofChange Rows.storeGoodSpec).at F).post enc Tryz.prog Tryz.f4 false true false false) := by
  obtain ⟨places, hx⟩ := reads os enc
  refine returnsInHanded_of_row (C := Tryz.checked) (s := OpenSpec.ofChange Rows.storeGoodSpec) D.own started (by kernel_rfl) Tryz.func4
    (witness_row_at (enc := enc) (C := Tryz.checked) false (D.laidWorldS os) #[.slice none 0 0, .int .i64 0, .int .i64 0] rfl (by kernel_rfl) (by kernel_rfl) (by kernel_rfl)
      (OpenSpec.preRow_of_cond 12 hx (by kernel_rfl) (fun k hk => by cases hk) (by kernel_rfl) (laid_met os))) ?_
  intro W base args ds gs before hval hW _ _ hsz hL _ _
  exact contract hval hW hsz hL
theorem said : Rows.StoreGoodSaid :=
  OpenClaim.holds_of_cond 4 Tryz.f4 rfl rfl rfl rfl rfl rfl rfl ⟨rfl, rfl, rfl, rfl, rfl⟩ rfl rfl rfl rfl rfl (by kernel_rfl) Tryz.func4 (by kernel_rfl)
    (of_decide_eq_true (by kernel_rfl)) (by unfold Func.isWrapper; first | (rw [if_pos (by decide +kernel)]; kernel_rfl) | (rw [if_neg (by decide +kernel)]; exact ⟨rfl, rfl⟩))
    (fun os started H enc _ F => by rw [OpenClaim.pre_eq_preRow]; exact lifted os started H enc F)
theorem plain (f : FuncId) (fn : Func) (hf : Tryz.pinned.checked.prog.funcNamed "dovecote/dovecotekeep.StoreGood" = some f) (hfn : Tryz.pinned.checked.prog.funcs[f]? = some fn) :
    true = Tryz.pinned.checked.prog.looks [] ∧ ∀ (j : Nat) t, fn.params[j]? = some t → Tryz.pinned.checked.prog.wantsStandIn t = false := by
  obtain rfl : f = 4 := Option.some.inj ((show Tryz.prog.funcNamed "dovecote/dovecotekeep.StoreGood" = some 4 by kernel_rfl).symm.trans hf) |>.symm
  obtain rfl : fn = Tryz.f4 := (Option.some.inj (Tryz.func4.symm.trans hfn)).symm
  refine ⟨by kernel_rfl, fun j t ht => ?_⟩
  rw [Tryz.params4] at ht
  have k0 : Tryz.pinned.checked.prog.wantsStandIn 42 = false := by kernel_rfl
  have k1 : Tryz.pinned.checked.prog.wantsStandIn 3 = false := by kernel_rfl
  have hh : t = 42 ∨ t = 3 := by simpa using Array.mem_of_getElem? ht
  rcases hh with rfl | rfl
  · exact k0
  · exact k1
theorem card : Rows.StoreGoodCardSaid :=
  Claim7.holds_tied_plain_at .later [] _ _ _ _ said (fun _ h => by cases h) (by kernel_rfl) (fun _ h => by cases h) storeGood_row_tie rfl ⟨rfl, rfl⟩ (by kernel_rfl) rfl plain (by kernel_rfl)
end Go.Proofs.YtbeegfkfpkfccaaGreatDoor.storeGood
