/-
  PROVED: 'Rows.SnapsOnceCardSaid': no store has two forms: bytes that snap.Decode takes are the bytes that snap.Encode gives. No condition; the table of chunks is tied to the program's text.
-/
import Derived.Test.YtbipegbgfdpaeaaDoorCDecLaw
import Derived.Test.YtbipegbgfdpaeaaDoorCEnc
namespace Go.Proofs.YtbipegbgfdpaeaaDoor.snapsOnce
open Go.ChangeShapes Go.WideShapes Go.ChangeAt Go.RowKit Go.Proofs.YtbipegbgfdpaeaaDoor.D

theorem enc_is (s : Store) (l : Str) (m : Int) (hl : Hid ((l, m) = s.bytes)) (a fa : Option Addr) (c fc : Nat) (w : World) (hc : Chunks w) (hI : RowsAt w a 9 ItemR s.items) (hF : RowsAt w fa 2 (PageR w) s.flash.pages)
    (hn : s.items.length * 88 ≤ 140737488355328) (hfn : s.flash.pages.length * 32 ≤ 140737488355328) :
    Calls Tryd.prog 17 #[.agg (storeV s a c fa fc)] w (BytesOut l m w) := by
  have := snap_Encode s a fa c fc w hc hI hF hn hfn
  rwa [← hl.out] at this
set_option maxRecDepth 100000 in
set_option maxHeartbeats 2000000 in
theorem walk (l : Str) (a : Option Addr) (c : Nat) (w : World) (hch : Chunks w) (hB : BytesAt w a l) (hc1 : l.length ≤ c) (hc2 : c ≤ 140737488351232) :
    Calls Tryd.prog 9 #[.slice a l.length c] w fun e w' => e = .returned (.bool true) ∧ Below w.heap.size w w' := by
  have HBY := Lib.hid hB
  have HCH := Lib.hid hch
  clear hB hch
  have hb := decode_b l
  obtain ⟨r, hr⟩ : ∃ r, r = D.decode l := ⟨_, rfl⟩
  rw [← hr] at hb
  obtain ⟨t, m⟩ := r
  have HR := Lib.hid hr
  clear hr
  simp only at hb
  obtain ⟨l1, l2⟩ := hb
  by_cases hm : m = 0
  rotate_left
  ·
    have ht := decode_zero HR.out.symm hm
    subst ht
    have h1 : (m == 0) = false := by simp [hm]
    have h2 : (m != 0) = true := by simp [hm]
    clear hm l1 l2
    go_enter Tryd.func9, Tryd.ntmps9
    go_wp2_with fail
    refine (decode_is l l.length Store.zero m rfl HR a c _ HBY.out hc1 (by omega) HCH.out).mono ?_
    rintro e w1 ⟨va, vc, fva, fvc, rfl, hi1, hf1, hb1⟩
    have HB1 := Lib.hid hb1
    clear hi1 hf1 hb1
    go_upto_region 2 with (fail)
    obtain ⟨W2, hW2⟩ : ∃ W2, W2 = w1.alloc (.cells (storeV Store.zero va vc fva fvc) 30) := ⟨_, rfl⟩
    have hb2 : Below w1.heap.size w1 W2 := by rw [hW2]; exact (Below.refl _ _).alloc (Nat.le_refl _) _
    have hh2 : W2.heap[w1.heap.size]? = some (.cells (storeV Store.zero va vc fva fvc) 30 (0, 0)) := by rw [hW2]; exact blk_new w1 _
    rw [← hW2]
    clear hW2
    have HB2 := Lib.hid (HB1.out.trans (hb2.mono HB1.out.size))
    have p8 : W2.cell? ⟨w1.heap.size, 8, none⟩ = some (.slice va 0 vc) := by rw [cell_of_row W2 _ _ _ _ _ hh2]; rfl
    clear hb2 hh2
    go_wp2_with fail
    go_ret
    exact ⟨rfl, HB2.out⟩
  ·
    subst hm
    have HT : Hid ((l, (0 : Int)) = t.bytes) := (decode_once HR.out.symm).symm
    go_enter Tryd.func9, Tryd.ntmps9
    go_wp2_with fail
    refine (decode_is l l.length t 0 rfl HR a c _ HBY.out hc1 (by omega) HCH.out).mono ?_
    rintro e w1 ⟨va, vc, fva, fvc, rfl, hi1, hf1, hb1⟩
    have HI1 := Lib.hid hi1
    have HF1 := Lib.hid hf1
    have HB1 := Lib.hid hb1
    clear hi1 hf1 hb1
    go_upto_region 2 with (fail)
    obtain ⟨W2, hW2⟩ : ∃ W2, W2 = w1.alloc (.cells (storeV t va vc fva fvc) 30) := ⟨_, rfl⟩
    have hb2 : Below w1.heap.size w1 W2 := by rw [hW2]; exact (Below.refl _ _).alloc (Nat.le_refl _) _
    have HH2 : Hid (W2.heap[w1.heap.size]? = some (.cells (storeV t va vc fva fvc) 30 (0, 0))) := by show _ = _; rw [hW2]; exact blk_new w1 _
    rw [← hW2]
    clear hW2
    have HB2 := Lib.hid (HB1.out.trans (hb2.mono HB1.out.size))
    have HI2 := Lib.hid (HI1.out.keep (Below.keeps hb2) (fun _ _ h => h))
    have HF2 := Lib.hid (HF1.out.keep (Below.keeps hb2) (PageR.keep (Below.keeps hb2)))
    clear hb2 HI1 HF1
    go_wp2_with (refine wpList_load_row rfl 30 _ rfl w1.heap.size rfl _ _ _ _ HH2.out Tryd.underlying30 rfl (by kernel_rfl) ?_)
    refine (enc_is t l 0 HT va fva vc fvc _ (HCH.out.keep (Below.keeps HB2.out)) HI2.out HF2.out (by omega) (by omega)).mono ?_
    rintro e w3 ⟨vb, vd, rfl, hby, _, _, hb3⟩
    have HB3 := Lib.hid (HB2.out.trans (hb3.mono HB2.out.size))
    have s1 := run_str hby l.length vd rfl w3 (Keeps.refl _)
    have s2 := run_str (HBY.out.keep (Below.keeps HB3.out)) l.length c rfl w3 (Keeps.refl _)
    clear hby hb3 HH2
    go_wp2_with fail
    go_ret
    exact ⟨rfl, HB3.out⟩

set_option maxRecDepth 100000 in
theorem enters {H : Type} {enc : TypeId × Value → H} {W : World} {base : Nat} {args : Array Value} {ds : List (DataW H)} {p : List MemPlace}
    (hval : ∀ (j : Nat) t v, Tryd.f9.params[j]? = some t → args[j]? = some v → Value.okWide Tryd.prog W .any base t v)
    (hA : DataW.TrodAll enc Tryd.prog W 0 (fun _ => true) true Tryd.f9.params.toList args.toList ds p) (hsz : ∀ m ∈ DataW.weightsEach Tryd.prog Tryd.f9.params.toList ds, m ≤ reachBytes) (hL : laidMetH Tryd.prog Rows.snapsOnceRow.laid W) :
    Calls Tryd.prog 9 args W fun e W' => e = .returned (.bool true) ∧ Below W.heap.size W W' := by
  rw [Tryd.params9] at hA hval hsz
  obtain ⟨v0, vs0, d0, ds0, p0, q0, hargs, rfl, rfl, h0, r0⟩ := trodAll_cons hA
  obtain ⟨rfl, rfl, rfl⟩ := trodAll_nil r0
  obtain rfl : args = #[v0] := by cases args; simp_all
  obtain ⟨a0, n0, c0, rfl⟩ := okWide_slice Tryd.underlying38 (hval 0 38 v0 rfl rfl)
  obtain ⟨fuel, hf⟩ := h0
  obtain ⟨a, c, l, he, h1, h2, h3⟩ := read_bytes (v := .slice a0 n0 c0) hf (Wt.all hsz 0 rfl rfl)
  cases he
  have : reachBytes = 140737488351232 := rfl
  exact walk l a0 c0 W (chunks_of hL) h3 h1 (by omega)

set_option maxRecDepth 100000 in
theorem contract {H : Type} {enc : TypeId × Value → H} {W : World} {base : Nat} {args : Array Value} {ds gs : List (DataW H)} {before : List MemPlace}
    (hval0 : ∀ (j : Nat) t v, Tryd.f9.params[j]? = some t → args[j]? = some v → Value.okWide Tryd.prog W .any base t v)
    (hW : DataW.Whole enc Tryd.prog Tryd.f9.params.toList Rows.snapsOnceSpec.vars false W args.toList ds gs before)
    (hsz0 : (DataW.weightsEach Tryd.prog (Tryd.f9.params.toList ++ []) (ds ++ gs)).all (· ≤ reachBytes) = true) (hL : laidMetH Tryd.prog Rows.snapsOnceRow.laid W) :
    Calls Tryd.prog 9 args W fun e W' => ∃ v, e = .returned v ∧ Rows.snapsOnceSpec.post enc Tryd.prog Tryd.f9 false true false false W args v W' := by
  have hval : ∀ (j : Nat) t v, Tryd.f9.params[j]? = some t → args[j]? = some v → Value.okWide Tryd.prog W .any base t v := hval0
  have hW' := hW
  obtain ⟨p, q, hA0, hV, rfl, hfz, hnd⟩ := hW
  have hA : DataW.TrodAll enc Tryd.prog W 0 (fun _ => true) true Tryd.f9.params.toList args.toList ds p := hA0
  obtain ⟨rfl, rfl⟩ := trodVars_none hV
  have hsz : ∀ m ∈ DataW.weightsEach Tryd.prog Tryd.f9.params.toList ds, m ≤ reachBytes := by
    have h0 := hsz0
    rw [List.append_nil, List.append_nil] at h0
    intro m hm
    simpa using List.all_eq_true.1 h0 m hm
  have hds : Rows.snapsOnceSpec.fn H (ds ++ []) = { results := [.lit (.bool true)], args := ds } := by
    have hA1 := hA
    rw [Tryd.params9] at hA1
    obtain ⟨v0, vs0, d0, ds0, p0, q0, _, rfl, rfl, h0, r0⟩ := trodAll_cons hA1
    obtain ⟨_, rfl, rfl⟩ := trodAll_nil r0
    rfl
  refine (enters hval hA hsz hL).mono fun e W' ⟨he, hb⟩ => ⟨_, he, D.law_post rfl rfl hds (by kernel_rfl) hW' hb⟩
theorem laid_met (os : Os) : laidMet Tryd.prog Rows.snapsOnceRow.laid ((D.laidWorld os).forCall (fun _ _ => 0) ⟨#[], #[.slice none 0 0], []⟩).memory :=
  laidMet_of_run' 12 (by kernel_rfl) (by kernel_rfl)
theorem reads (os : Os) {H : Type} (enc : TypeId × Value → H) : ∃ places, DataW.whole enc Tryd.prog ((D.laidWorld os).forCall (fun _ _ => 0) ⟨#[], #[.slice none 0 0], []⟩).memory Tryd.f9.params.toList Rows.snapsOnceSpec.vars false (#[.slice none 0 0] : Array Value).toList 12 = some ([.nil], [], places) :=
  ⟨[], by kernel_rfl⟩
set_option maxRecDepth 100000 in
theorem lifted (os : Os) (started : os.Started) (H : Type) (enc : TypeId × Value → H) (F : Stop.Interp) :
    ReturnsInHanded {} Tryd.checked os 9 .any ((OpenSpec.ofChange Rows.snapsOnceSpec).preRow enc Tryd.prog Tryd.f9 Rows.snapsOnceRow.domain false Rows.snapsOnceRow.laid) (((OpenSpec.ofChange Rows.snapsOnceSpec).at F).post enc Tryd.prog Tryd.f9 false true false false) := by
  obtain ⟨places, hx⟩ := reads os enc
  refine returnsInHanded_of_row (C := Tryd.checked) (s := OpenSpec.ofChange Rows.snapsOnceSpec) D.own started (by kernel_rfl) Tryd.func9
    (witness_row_at (enc := enc) (C := Tryd.checked) false (D.laidWorld os) #[.slice none 0 0] rfl (by kernel_rfl) (by kernel_rfl) (by kernel_rfl)
      (OpenSpec.preRow_of_cond 12 hx (by kernel_rfl) (fun k hk => by cases hk) (by kernel_rfl) (laid_met os))) ?_
  intro W base args ds gs before hval hW _ _ hsz hL _ _
  exact contract hval hW hsz hL
theorem said : Rows.SnapsOnceSaid :=
  OpenClaim.holds_of_cond 9 Tryd.f9 rfl rfl rfl rfl rfl rfl rfl ⟨rfl, rfl, rfl, rfl, rfl⟩ rfl rfl rfl rfl rfl (by kernel_rfl) Tryd.func9 (by kernel_rfl)
    (of_decide_eq_true (by kernel_rfl)) (by unfold Func.isWrapper; first | (rw [if_pos (by decide +kernel)]; kernel_rfl) | (rw [if_neg (by decide +kernel)]; exact ⟨rfl, rfl⟩))
    (fun os started H enc _ F => by rw [OpenClaim.pre_eq_preRow]; exact lifted os started H enc F)
theorem plain (f : FuncId) (fn : Func) (hf : Tryd.pinned.checked.prog.funcNamed "dovecote/dovecotekeep.SnapsOnce" = some f) (hfn : Tryd.pinned.checked.prog.funcs[f]? = some fn) :
    false = Tryd.pinned.checked.prog.looks [] ∧ ∀ (j : Nat) t, fn.params[j]? = some t → Tryd.pinned.checked.prog.wantsStandIn t = false := by
  obtain rfl : f = 9 := Option.some.inj ((show Tryd.prog.funcNamed "dovecote/dovecotekeep.SnapsOnce" = some 9 by kernel_rfl).symm.trans hf) |>.symm
  obtain rfl : fn = Tryd.f9 := (Option.some.inj (Tryd.func9.symm.trans hfn)).symm
  refine ⟨by kernel_rfl, fun j t ht => ?_⟩
  rw [Tryd.params9] at ht
  obtain rfl : t = 38 := by simpa using Array.mem_of_getElem? ht
  kernel_rfl
theorem card : Rows.SnapsOnceCardSaid :=
  Claim7.holds_tied_plain_at .later [] _ _ _ _ said (fun _ h => by cases h) (by kernel_rfl) (fun _ h => by cases h) snapsOnce_row_tie rfl ⟨rfl, rfl⟩ (by kernel_rfl) rfl plain (by kernel_rfl)
end Go.Proofs.YtbipegbgfdpaeaaDoor.snapsOnce
