/-
  PROVED: 'Rows.StoreNewSaid': store.New answers what P3.2 says, at every argument. No condition.
-/
import Derived.Test.YtjhfomihlobjgaaCLaw
import Derived.Test.YtjhfomihlobjgaaCNew
import Derived.Test.YtjhfomihlobjgaaCSame
namespace Go.Proofs.Ytjhfomihlobjgaa.storeNew
open Go.ChangeShapes Go.WideShapes Go.ChangeAt Go.RowKit Go.Proofs.Ytjhfomihlobjgaa.D Go.Joins

theorem same_new (s : Store) (hi : s.items = []) (hp : s.flash.pages = []) (w : World) :
    Calls Try.prog 20 #[.agg #[.int .i64 s.clock, .int .i64 s.cas, .int .i64 s.uses, .int .i64 s.most, .int .i64 s.h0, .int .i64 s.h1, .int .i64 s.h2, .int .i64 s.h3, .slice none 0 0, .int .i64 s.flash.most, .int .i64 s.flash.next, .slice none 0 0],
      .agg #[.int .i64 s.clock, .int .i64 s.cas, .int .i64 s.uses, .int .i64 s.most, .int .i64 s.h0, .int .i64 s.h1, .int .i64 s.h2, .int .i64 s.h3, .slice none 0 0, .int .i64 s.flash.most, .int .i64 s.flash.next, .slice none 0 0]] w
      fun e w' => e = .returned (.bool true) ∧ Below w.heap.size w w' := by
  have h := same_store s none none none none 0 0 0 0 w (by rw [hi]; exact .inl rfl) (by rw [hi]; exact .inl rfl) (by rw [hp]; exact .inl rfl) (by rw [hp]; exact .inl rfl) (by rw [hi]; simp) (by rw [hp]; simp)
  simp only [storeV, hi, hp, List.length_nil] at h
  exact h
set_option maxRecDepth 100000 in
set_option maxHeartbeats 1000000 in
theorem walk (p f : Int) (w : World) :
    Calls Try.prog 6 #[.agg #[.int .i64 p, .int .i64 f]] w fun e w' => e = .returned (.bool true) ∧ Below w.heap.size w w' := by
  obtain ⟨s, hs⟩ : ∃ s, s = newS p f := ⟨_, rfl⟩
  have HI : Hid (s.1.items = []) := by rw [hs]; exact newS_items p f
  have HP : Hid (s.1.flash.pages = []) := by rw [hs]; exact newS_pages p f
  have HS := Lib.hid hs
  clear hs
  go_enter Try.func6, Try.ntmps6
  go_wp2_with fail
  refine (store_New p f _).mono ?_
  rw [← HS.out]
  rintro e w1 ⟨rfl, hb⟩
  obtain ⟨hc, hfz, hz⟩ := bcell hb
  simp only [World.size_alloc] at hc hfz hz
  have hz0 : w.heap.size < w1.heap.size := by omega
  have hB := Lib.hid hb
  clear hb
  go_wp2_with fail
  refine (ref_StoreNew p f _).mono ?_
  rw [← HS.out]
  rintro e w2 ⟨rfl, hb2⟩
  obtain ⟨hc2, hfz2, hz2⟩ := bcell hb2
  simp only [World.size_alloc] at hc2 hfz2 hz2
  have hz3 : w.heap.size < w2.heap.size := by omega
  have hz4 : w1.heap.size < w2.heap.size := by omega
  have hB2 := Lib.hid hb2
  clear hb2
  go_wp2_with fail
  refine (same_new s.1 HI.out HP.out _).mono ?_
  rintro e w3 ⟨rfl, hb3⟩
  go_wp2_with fail
  go_ret
  have h1 : Below w.heap.size w w1 := Below.trans (by go_grown) (hB.out.mono (by go_size))
  exact ⟨rfl, (h1.trans (Below.trans (by go_grown) (hB2.out.mono (by go_size)))).trans (Below.trans (by go_grown) (hb3.mono (by go_size)))⟩

set_option maxRecDepth 100000 in
theorem enters {H : Type} {enc : TypeId × Value → H} {W : World} {base : Nat} {args : Array Value} {ds : List (DataW H)} {p : List MemPlace}
    (hval : ∀ (j : Nat) t v, Try.f6.params[j]? = some t → args[j]? = some v → Value.okWide Try.prog W .any base t v)
    (hA : DataW.TrodAll enc Try.prog W 0 (fun _ => true) true Try.f6.params.toList args.toList ds p) :
    Calls Try.prog 6 args W fun e W' => e = .returned (.bool true) ∧ Below W.heap.size W W' := by
  rw [Try.params6] at hA hval
  obtain ⟨v0, vs0, d0, ds0, p0, q0, hargs, rfl, rfl, h0, r0⟩ := trodAll_cons hA
  obtain ⟨rfl, rfl, rfl⟩ := trodAll_nil r0
  obtain rfl : args = #[v0] := by cases args; simp_all
  obtain ⟨c0, c1, y0, y1, m, rfl, rfl, rfl, hy0, hy1⟩ := open_agg2 Try.underlying36 (by kernel_rfl) (by kernel_rfl) (hval 0 36 v0 rfl rfl) h0
  obtain ⟨a, e0, wa⟩ := read_i64 Try.underlying3 hy0
  obtain ⟨b, e1, wb⟩ := read_i64 Try.underlying3 hy1
  cases e0; cases e1
  exact walk a b W

set_option maxRecDepth 100000 in
theorem lifted (os : Os) (started : os.Started) (H : Type) (enc : TypeId × Value → H) :
    ReturnsInHanded {} Try.checked os 6 .any (Rows.storeNewSpec.pre6 enc Try.prog Try.f6 Rows.storeNewRow.domain false) (Rows.storeNewSpec.post enc Try.prog Try.f6 false true false false) := by
  refine returnsInHanded_of_change (C := Try.checked) D.own started (by kernel_rfl) Try.func6
    (ChangeSpec.witness6 (enc := enc) (C := Try.checked) false ⟨#[], #[.agg #[.int .i64 0, .int .i64 0]], []⟩ 12 (by kernel_rfl) (by kernel_rfl) (by kernel_rfl) (by kernel_rfl)) ?_
  intro W base args ds gs before hval0 hW hcnd _
  have hval : ∀ (j : Nat) t v, Try.f6.params[j]? = some t → args[j]? = some v → Value.okWide Try.prog W .any base t v := hval0
  have hW' := hW
  obtain ⟨p, q, hA0, hV, rfl, hfz, hnd⟩ := hW
  have hA : DataW.TrodAll enc Try.prog W 0 (fun _ => true) true Try.f6.params.toList args.toList ds p := hA0
  obtain ⟨rfl, rfl⟩ := trodVars_none hV
  have hds : Rows.storeNewSpec.fn H (ds ++ []) = { results := [.lit (.bool true)], args := ds } := by
    have hA1 := hA
    rw [Try.params6] at hA1
    obtain ⟨v0, vs0, d0, ds0, p0, q0, _, rfl, rfl, h0, r0⟩ := trodAll_cons hA1
    obtain ⟨_, rfl, rfl⟩ := trodAll_nil r0
    rfl
  refine (enters hval hA).mono fun e W' ⟨he, hb⟩ => ⟨_, he, D.law_post rfl rfl hds (by kernel_rfl) hW' hb⟩
theorem proved : Rows.StoreNewSaid :=
  OpenClaim.holds_of_wide 6 Try.f6 rfl rfl rfl rfl rfl rfl rfl ⟨rfl, rfl, rfl, rfl, rfl⟩ rfl rfl rfl rfl rfl (by kernel_rfl) Try.func6 (by kernel_rfl)
    (of_decide_eq_true (by kernel_rfl)) (by unfold Func.isWrapper; first | (rw [if_pos (by decide +kernel)]; kernel_rfl) | (rw [if_neg (by decide +kernel)]; exact ⟨rfl, rfl⟩))
    (fun os started H enc _ => lifted os started H enc)
end Go.Proofs.Ytjhfomihlobjgaa.storeNew
