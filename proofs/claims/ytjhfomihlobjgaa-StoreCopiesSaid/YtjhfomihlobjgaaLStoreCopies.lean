/-
  PROVED: 'Rows.StoreCopiesSaid': store.Copy answers what P3.4 says, at every argument. No condition.
-/
import Derived.Test.YtjhfomihlobjgaaCLaw
import Derived.Test.YtjhfomihlobjgaaCStoreCopy
namespace Go.Proofs.Ytjhfomihlobjgaa.storeCopies
open Go.ChangeShapes Go.WideShapes Go.ChangeAt Go.RowKit Go.Proofs.Ytjhfomihlobjgaa.D

set_option maxRecDepth 100000 in
set_option maxHeartbeats 1000000 in
theorem walk (s : Store) (a fa : Option Addr) (c fc : Nat) (w : World) (h : RowsAt w a 9 ItemR s.items) (hf : RowsAt w fa 2 (PageR w) s.flash.pages)
    (hn : s.items.length * 88 ≤ 140737488355328) (hfn : s.flash.pages.length * 32 ≤ 140737488355328) :
    Calls Try.prog 8 #[.agg (storeV s a c fa fc)] w fun e w' => e = .returned (.bool true) ∧ Below w.heap.size w w' := by
  have HI := Lib.hid h
  have HF := Lib.hid hf
  clear h hf
  go_enter Try.func8, Try.ntmps8
  go_wp2_with fail
  refine (store_Copy s a fa c fc _ ?_ ?_ hn hfn).mono ?_
  · exact HI.out.keep (Below.keeps (by go_grown)) (fun _ _ h => h)
  · exact HF.out.keep (Below.keeps (by go_grown)) (PageR.keep (Below.keeps (by go_grown)))
  rintro e w1 ⟨va, vc, fva, fvc, fvs, rfl, how, hpm, hb⟩
  obtain ⟨hc, hfz, hz⟩ := bcell hb
  simp only [World.size_alloc] at hc hfz hz
  have hz0 : w.heap.size < w1.heap.size := by omega
  have HOW := Lib.hid (own_items how HI.out.itemB)
  have HP := Lib.hid (hpm.rows HF.out.pageB)
  have hbw : Below w.heap.size w w1 := Below.trans (by go_grown) (hb.mono (by go_size))
  clear hpm hb how
  go_wp2_with fail
  refine (same_store s va a fva fa vc c fvc fc _ ?_ ?_ ?_ ?_ (by omega) (by omega)).mono ?_
  · exact HOW.out.keep (Below.keeps (by go_grown)) (fun _ _ h => h)
  · exact HI.out.keep (Below.keeps (by go_grown)) (fun _ _ h => h)
  · exact HP.out.keep (Below.keeps (by go_grown)) (PageR.keep (Below.keeps (by go_grown)))
  · exact HF.out.keep (Below.keeps (by go_grown)) (PageR.keep (Below.keeps (by go_grown)))
  rintro e w2 ⟨rfl, hb2⟩
  go_wp2_with fail
  go_ret
  exact ⟨rfl, hbw.trans (Below.trans (by go_grown) (hb2.mono (by go_size)))⟩

set_option maxRecDepth 100000 in
theorem enters {H : Type} {enc : TypeId × Value → H} {W : World} {base : Nat} {args : Array Value} {ds : List (DataW H)} {p : List MemPlace}
    (hval : ∀ (j : Nat) t v, Try.f8.params[j]? = some t → args[j]? = some v → Value.okWide Try.prog W .any base t v)
    (hA : DataW.TrodAll enc Try.prog W 0 (fun _ => true) true Try.f8.params.toList args.toList ds p) (hsz : ∀ m ∈ DataW.weightsEach Try.prog Try.f8.params.toList ds, m ≤ reachBytes) :
    Calls Try.prog 8 args W fun e W' => e = .returned (.bool true) ∧ Below W.heap.size W W' := by
  rw [Try.params8] at hA hval hsz
  obtain ⟨v0, vs0, d0, ds0, p0, q0, hargs, rfl, rfl, h0, r0⟩ := trodAll_cons hA
  obtain ⟨rfl, rfl, rfl⟩ := trodAll_nil r0
  obtain rfl : args = #[v0] := by cases args; simp_all
  obtain ⟨cs, rfl, hcs⟩ := okWide_struct Try.underlying40 (hval 0 40 v0 rfl rfl)
  obtain ⟨fuel, hf⟩ := h0
  obtain ⟨s, _, _, _, _, _, _, _, _, a, c, fs, he, h1, h2, h3, _, _, fa, fc, hfs, h4, h5, h6⟩ := read_store hf (Wt.all hsz 0 rfl rfl)
  obtain rfl : cs = storeV s a c fa fc := by
    have : cs.toList = _ := he
    rw [hfs] at this
    cases cs; simp_all [storeV]
  have : reachBytes = 140737488351232 := rfl
  exact walk s a fa c fc W h3 h6 (by omega) (by omega)

set_option maxRecDepth 100000 in
theorem lifted (os : Os) (started : os.Started) (H : Type) (enc : TypeId × Value → H) :
    ReturnsInHanded {} Try.checked os 8 .any (Rows.storeCopiesSpec.pre6 enc Try.prog Try.f8 Rows.storeCopiesRow.domain false) (Rows.storeCopiesSpec.post enc Try.prog Try.f8 false true false false) := by
  refine returnsInHanded_of_change_sized (C := Try.checked) D.own started (by kernel_rfl) Try.func8
    (ChangeSpec.witness6 (enc := enc) (C := Try.checked) false ⟨#[], #[.agg #[.int .i64 0, .int .i64 0, .int .i64 0, .int .i64 0, .int .i64 0, .int .i64 0, .int .i64 0, .int .i64 0, .slice none 0 0, .int .i64 0, .int .i64 0, .slice none 0 0]], []⟩ 12 (by kernel_rfl) (by kernel_rfl) (by kernel_rfl) (by kernel_rfl)) ?_
  intro W base args ds gs before hval0 hW hcnd hsz0 _
  have hval : ∀ (j : Nat) t v, Try.f8.params[j]? = some t → args[j]? = some v → Value.okWide Try.prog W .any base t v := hval0
  have hW' := hW
  obtain ⟨p, q, hA0, hV, rfl, hfz, hnd⟩ := hW
  have hA : DataW.TrodAll enc Try.prog W 0 (fun _ => true) true Try.f8.params.toList args.toList ds p := hA0
  obtain ⟨rfl, rfl⟩ := trodVars_none hV
  have hsz : ∀ m ∈ DataW.weightsEach Try.prog Try.f8.params.toList ds, m ≤ reachBytes := by
    have h0 : (DataW.weightsEach Try.prog (Try.f8.params.toList ++ []) (ds ++ [])).all (· ≤ reachBytes) = true := hsz0
    rw [List.append_nil, List.append_nil] at h0
    intro m hm
    simpa using List.all_eq_true.1 h0 m hm
  have hds : Rows.storeCopiesSpec.fn H (ds ++ []) = { results := [.lit (.bool true)], args := ds } := by
    have hA1 := hA
    rw [Try.params8] at hA1
    obtain ⟨v0, vs0, d0, ds0, p0, q0, _, rfl, rfl, h0, r0⟩ := trodAll_cons hA1
    obtain ⟨_, rfl, rfl⟩ := trodAll_nil r0
    rfl
  refine (enters hval hA hsz).mono fun e W' ⟨he, hb⟩ => ⟨_, he, D.law_post rfl rfl hds (by kernel_rfl) hW' hb⟩
theorem proved : Rows.StoreCopiesSaid :=
  OpenClaim.holds_of_wide 8 Try.f8 rfl rfl rfl rfl rfl rfl rfl ⟨rfl, rfl, rfl, rfl, rfl⟩ rfl rfl rfl rfl rfl (by kernel_rfl) Try.func8 (by kernel_rfl)
    (of_decide_eq_true (by kernel_rfl)) (by unfold Func.isWrapper; first | (rw [if_pos (by decide +kernel)]; kernel_rfl) | (rw [if_neg (by decide +kernel)]; exact ⟨rfl, rfl⟩))
    (fun os started H enc _ => lifted os started H enc)
end Go.Proofs.Ytjhfomihlobjgaa.storeCopies
