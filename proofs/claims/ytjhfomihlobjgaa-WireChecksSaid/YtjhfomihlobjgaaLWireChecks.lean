/-
  PROVED: 'Rows.WireChecksSaid': wire.Check answers what P1.2 says, at every argument. No condition.
-/
import Derived.Test.YtjhfomihlobjgaaCLaw
import Derived.Test.YtjhfomihlobjgaaCRFault
namespace Go.Proofs.Ytjhfomihlobjgaa.wireChecks
open Go.ChangeShapes Go.WideShapes Go.ChangeAt Go.RowKit Go.Proofs.Ytjhfomihlobjgaa.D

set_option maxHeartbeats 400000 in
theorem walk (r : Req) (a : Option Addr) (c : Nat) (w : World) (h : RowsAt w a 1 strR r.keys) (hl : r.keys.length ≤ 9223372036854775807) (hk : r.key.size ≤ 9223372036854775807) :
    Calls Try.prog 10 #[.agg (reqV r a c)] w fun e w' => e = .returned (.bool true) ∧ Below w.heap.size w w' := by
  have HR := Lib.hid h
  clear h
  go_enter Try.func10, Try.ntmps10
  go_wp2_with fail
  refine (wire_Check r a c _ ?_ hl hk).mono ?_
  · exact HR.out.keep (Below.keeps (by go_grown)) (fun _ _ h => h)
  rintro e w1 ⟨rfl, hb⟩
  obtain ⟨hc, hfz, hz⟩ := bcell hb
  simp only [World.size_alloc] at hc hfz hz
  have hz0 : w.heap.size < w1.heap.size := by omega
  have hbw : Below w.heap.size w w1 := Below.trans (by go_grown) (hb.mono (by go_size))
  clear hb
  go_wp2_with fail
  refine (ref_RequestFault r a c _ ?_ hl hk).mono ?_
  · exact HR.out.keep (Below.keeps (by go_grown)) (fun _ _ h => h)
  rintro e w2 ⟨rfl, hb2⟩
  go_wp2_with fail
  go_ret
  exact ⟨rfl, hbw.trans (Below.trans (by go_grown) (hb2.mono (by go_size)))⟩

set_option maxRecDepth 100000 in
theorem enters {H : Type} {enc : TypeId × Value → H} {W : World} {base : Nat} {args : Array Value} {ds : List (DataW H)} {p : List MemPlace}
    (hval : ∀ (j : Nat) t v, Try.f10.params[j]? = some t → args[j]? = some v → Value.okWide Try.prog W .any base t v)
    (hA : DataW.TrodAll enc Try.prog W 0 (fun _ => true) true Try.f10.params.toList args.toList ds p) (hsz : ∀ m ∈ DataW.weightsEach Try.prog Try.f10.params.toList ds, m ≤ reachBytes) :
    Calls Try.prog 10 args W fun e W' => e = .returned (.bool true) ∧ Below W.heap.size W W' := by
  rw [Try.params10] at hA hval hsz
  obtain ⟨v0, vs0, d0, ds0, p0, q0, hargs, rfl, rfl, h0, r0⟩ := trodAll_cons hA
  obtain ⟨rfl, rfl, rfl⟩ := trodAll_nil r0
  obtain rfl : args = #[v0] := by cases args; simp_all
  obtain ⟨cs, rfl, hcs⟩ := okWide_struct Try.underlying51 (hval 0 51 v0 rfl rfl)
  obtain ⟨fuel, hf⟩ := h0
  obtain ⟨r, _, _, _, _, hks, _, a, c, he, h1, h2, h3⟩ := read_req hf (Wt.all hsz 0 rfl rfl)
  obtain rfl : cs = reqV r a c := by
    have : cs.toList = _ := he
    cases cs; simp_all [reqV]
  have : reachBytes = 140737488351232 := rfl
  exact walk r a c W h3 (by omega) (by omega)

set_option maxRecDepth 100000 in
theorem lifted (os : Os) (started : os.Started) (H : Type) (enc : TypeId × Value → H) :
    ReturnsInHanded {} Try.checked os 10 .any (Rows.wireChecksSpec.pre6 enc Try.prog Try.f10 Rows.wireChecksRow.domain false) (Rows.wireChecksSpec.post enc Try.prog Try.f10 false true false false) := by
  refine returnsInHanded_of_change_sized (C := Try.checked) D.own started (by kernel_rfl) Try.func10
    (ChangeSpec.witness6 (enc := enc) (C := Try.checked) false ⟨#[], #[.agg #[.int .i64 0, .string ByteArray.empty, .slice none 0 0, .int .i64 0, .int .i64 0, .int .i64 0, .string ByteArray.empty, .bool false]], []⟩ 12 (by kernel_rfl) (by kernel_rfl) (by kernel_rfl) (by kernel_rfl)) ?_
  intro W base args ds gs before hval0 hW hcnd hsz0 _
  have hval : ∀ (j : Nat) t v, Try.f10.params[j]? = some t → args[j]? = some v → Value.okWide Try.prog W .any base t v := hval0
  have hW' := hW
  obtain ⟨p, q, hA0, hV, rfl, hfz, hnd⟩ := hW
  have hA : DataW.TrodAll enc Try.prog W 0 (fun _ => true) true Try.f10.params.toList args.toList ds p := hA0
  obtain ⟨rfl, rfl⟩ := trodVars_none hV
  have hsz : ∀ m ∈ DataW.weightsEach Try.prog Try.f10.params.toList ds, m ≤ reachBytes := by
    have h0 : (DataW.weightsEach Try.prog (Try.f10.params.toList ++ []) (ds ++ [])).all (· ≤ reachBytes) = true := hsz0
    rw [List.append_nil, List.append_nil] at h0
    intro m hm
    simpa using List.all_eq_true.1 h0 m hm
  have hds : Rows.wireChecksSpec.fn H (ds ++ []) = { results := [.lit (.bool true)], args := ds } := by
    have hA1 := hA
    rw [Try.params10] at hA1
    obtain ⟨v0, vs0, d0, ds0, p0, q0, _, rfl, rfl, h0, r0⟩ := trodAll_cons hA1
    obtain ⟨_, rfl, rfl⟩ := trodAll_nil r0
    rfl
  refine (enters hval hA hsz).mono fun e W' ⟨he, hb⟩ => ⟨_, he, D.law_post rfl rfl hds (by kernel_rfl) hW' hb⟩
theorem proved : Rows.WireChecksSaid :=
  OpenClaim.holds_of_wide 10 Try.f10 rfl rfl rfl rfl rfl rfl rfl ⟨rfl, rfl, rfl, rfl, rfl⟩ rfl rfl rfl rfl rfl (by kernel_rfl) Try.func10 (by kernel_rfl)
    (of_decide_eq_true (by kernel_rfl)) (by unfold Func.isWrapper; first | (rw [if_pos (by decide +kernel)]; kernel_rfl) | (rw [if_neg (by decide +kernel)]; exact ⟨rfl, rfl⟩))
    (fun os started H enc _ => lifted os started H enc)
end Go.Proofs.Ytjhfomihlobjgaa.wireChecks
