/-
  PROVED: 'Rows.FlashReadsSaid': flash.Read answers what P2.5 says, at every argument. No condition.
-/
import Derived.Test.YtjhfomihlobjgaaCLaw
import Derived.Test.YtjhfomihlobjgaaCRRead
namespace Go.Proofs.Ytjhfomihlobjgaa.flashReads
open Go.ChangeShapes Go.WideShapes Go.ChangeAt Go.RowKit Go.Proofs.Ytjhfomihlobjgaa.D

set_option maxHeartbeats 400000 in
theorem walk (f : Flash) (q : D.Place) (a : Option Addr) (c : Nat) (w : World) (h : RowsAt w a 2 (PageR w) f.pages) (hn : f.pages.length ≤ 9223372036854775807) :
    Calls Try.prog 11 #[.agg #[.int .i64 f.most, .int .i64 f.next, .slice a f.pages.length c], .agg #[.int .i64 q.page, .int .i64 q.off]] w fun e w' => e = .returned (.bool true) ∧ Below w.heap.size w w' := by
  have HR := Lib.hid h
  clear h
  go_enter Try.func11, Try.ntmps11
  go_wp2_with fail
  refine (flash_Read f q a c _ ?_ hn).mono ?_
  · exact HR.out.keep (Below.keeps (by go_grown)) (PageR.keep (Below.keeps (by go_grown)))
  rintro e w1 ⟨rfl, hb⟩
  obtain ⟨hc, hfz, hz⟩ := bcell hb
  simp only [World.size_alloc] at hc hfz hz
  have hz0 : w.heap.size + 1 < w1.heap.size := by omega
  have hbw : Below w.heap.size w w1 := Below.trans (by go_grown) (hb.mono (by go_size))
  clear hb
  go_wp2_with fail
  refine (ref_FlashRead f q a c _ ?_ hn).mono ?_
  · exact HR.out.keep (Below.keeps (by go_grown)) (PageR.keep (Below.keeps (by go_grown)))
  rintro e w2 ⟨rfl, hb2⟩
  go_wp2_with fail
  go_ret
  exact ⟨rfl, hbw.trans (Below.trans (by go_grown) (hb2.mono (by go_size)))⟩

set_option maxRecDepth 100000 in
theorem enters {H : Type} {enc : TypeId × Value → H} {W : World} {base : Nat} {args : Array Value} {ds : List (DataW H)} {p : List MemPlace}
    (hval : ∀ (j : Nat) t v, Try.f11.params[j]? = some t → args[j]? = some v → Value.okWide Try.prog W .any base t v)
    (hA : DataW.TrodAll enc Try.prog W 0 (fun _ => true) true Try.f11.params.toList args.toList ds p) (hsz : ∀ m ∈ DataW.weightsEach Try.prog Try.f11.params.toList ds, m ≤ reachBytes) :
    Calls Try.prog 11 args W fun e W' => e = .returned (.bool true) ∧ Below W.heap.size W W' := by
  rw [Try.params11] at hA hval hsz
  obtain ⟨v0, vs0, d0, ds0, p0, q0, hargs, rfl, rfl, h0, r0⟩ := trodAll_cons hA
  obtain ⟨v1, vs1, d1, ds1, p1, q1, hargs1, rfl, rfl, h1, r1⟩ := trodAll_cons r0
  obtain ⟨rfl, rfl, rfl⟩ := trodAll_nil r1
  obtain rfl : args = #[v0, v1] := by cases args; simp_all
  obtain ⟨cs, rfl, hcs⟩ := okWide_struct Try.underlying28 (hval 0 28 v0 rfl rfl)
  obtain ⟨ds, rfl, hds⟩ := okWide_struct Try.underlying55 (hval 1 55 v1 rfl rfl)
  obtain ⟨fuel, hf⟩ := h0
  obtain ⟨fuel1, hf1⟩ := h1
  obtain ⟨f, _, _, a, c, he, h3, h4, h5⟩ := read_flash hf (Wt.all hsz 0 rfl rfl)
  obtain ⟨q, he1, _, _⟩ := read_place hf1
  obtain rfl : cs = #[.int .i64 f.most, .int .i64 f.next, .slice a f.pages.length c] := by
    have : cs.toList = _ := he
    cases cs; simp_all
  obtain rfl : ds = #[.int .i64 q.page, .int .i64 q.off] := by
    have : ds.toList = _ := he1
    cases ds; simp_all
  refine walk f q a c W h5 ?_
  have : reachBytes = 140737488351232 := rfl
  omega

set_option maxRecDepth 100000 in
theorem lifted (os : Os) (started : os.Started) (H : Type) (enc : TypeId × Value → H) :
    ReturnsInHanded {} Try.checked os 11 .any (Rows.flashReadsSpec.pre6 enc Try.prog Try.f11 Rows.flashReadsRow.domain false) (Rows.flashReadsSpec.post enc Try.prog Try.f11 false true false false) := by
  refine returnsInHanded_of_change_sized (C := Try.checked) D.own started (by kernel_rfl) Try.func11
    (ChangeSpec.witness6 (enc := enc) (C := Try.checked) false ⟨#[], #[.agg #[.int .i64 0, .int .i64 0, .slice none 0 0], .agg #[.int .i64 0, .int .i64 0]], []⟩ 12 (by kernel_rfl) (by kernel_rfl) (by kernel_rfl) (by kernel_rfl)) ?_
  intro W base args ds gs before hval0 hW hcnd hsz0 _
  have hval : ∀ (j : Nat) t v, Try.f11.params[j]? = some t → args[j]? = some v → Value.okWide Try.prog W .any base t v := hval0
  have hW' := hW
  obtain ⟨p, q, hA0, hV, rfl, hfz, hnd⟩ := hW
  have hA : DataW.TrodAll enc Try.prog W 0 (fun _ => true) true Try.f11.params.toList args.toList ds p := hA0
  obtain ⟨rfl, rfl⟩ := trodVars_none hV
  have hsz : ∀ m ∈ DataW.weightsEach Try.prog Try.f11.params.toList ds, m ≤ reachBytes := by
    have h0 : (DataW.weightsEach Try.prog (Try.f11.params.toList ++ []) (ds ++ [])).all (· ≤ reachBytes) = true := hsz0
    rw [List.append_nil, List.append_nil] at h0
    intro m hm
    simpa using List.all_eq_true.1 h0 m hm
  have hds : Rows.flashReadsSpec.fn H (ds ++ []) = { results := [.lit (.bool true)], args := ds } := by
    have hA1 := hA
    rw [Try.params11] at hA1
    obtain ⟨v0, vs0, d0, ds0, p0, q0, _, rfl, rfl, h0, r0⟩ := trodAll_cons hA1
    obtain ⟨v1, vs1, d1, ds1, p1, q1, _, rfl, rfl, h1, r1⟩ := trodAll_cons r0
    obtain ⟨_, rfl, rfl⟩ := trodAll_nil r1
    rfl
  refine (enters hval hA hsz).mono fun e W' ⟨he, hb⟩ => ⟨_, he, D.law_post rfl rfl hds (by kernel_rfl) hW' hb⟩
theorem proved : Rows.FlashReadsSaid :=
  OpenClaim.holds_of_wide 11 Try.f11 rfl rfl rfl rfl rfl rfl rfl ⟨rfl, rfl, rfl, rfl, rfl⟩ rfl rfl rfl rfl rfl (by kernel_rfl) Try.func11 (by kernel_rfl)
    (of_decide_eq_true (by kernel_rfl)) (by unfold Func.isWrapper; first | (rw [if_pos (by decide +kernel)]; kernel_rfl) | (rw [if_neg (by decide +kernel)]; exact ⟨rfl, rfl⟩))
    (fun os started H enc _ => lifted os started H enc)
end Go.Proofs.Ytjhfomihlobjgaa.flashReads
