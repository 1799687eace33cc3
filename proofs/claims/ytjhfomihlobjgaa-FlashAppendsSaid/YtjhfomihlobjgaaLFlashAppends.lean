/-
  PROVED: 'Rows.FlashAppendsSaid': flash.Append answers what P2.4 says, at every argument. No condition.
-/
import Derived.Test.YtjhfomihlobjgaaCLaw
import Derived.Test.YtjhfomihlobjgaaCAppOf
import Derived.Test.YtjhfomihlobjgaaCSame
namespace Go.Proofs.Ytjhfomihlobjgaa.flashAppends
open Go.ChangeShapes Go.WideShapes Go.ChangeAt Go.RowKit Go.Proofs.Ytjhfomihlobjgaa.D
open Go.ChangeMaps (open_string)

theorem lenMax {base : Nat} {w : World} {v : Value} {ps : List Page} {vs : List Value} (h : PagesOwn base w v ps vs) : ps.length ≤ 9223372036854775807 := by
  rcases Nat.eq_zero_or_pos ps.length with h0 | h0
  · omega
  · obtain ⟨g, cap, _, _, _, h1, h2, _⟩ := own_shape h.row h0
    exact Nat.le_trans h1 (le_maxLen h2)
set_option maxHeartbeats 2000000 in
set_option maxRecDepth 100000 in
theorem walk (f : Flash) (s : ByteArray) (a : Option Addr) (c : Nat) (w : World) (h : RowsAt w a 2 (PageR w) f.pages) (hn : f.pages.length * 32 ≤ 140737488355328)
    (hby : ∀ p ∈ f.pages, p.bytes.length ≤ 140737488355328) (hs : s.size ≤ 9223372036854775807) :
    Calls Try.prog 12 #[.agg #[.int .i64 f.most, .int .i64 f.next, .slice a f.pages.length c], .string s] w fun e w' => e = .returned (.bool true) ∧ Below w.heap.size w w' := by
  have HR := Lib.hid h
  have HB := Lib.hid hby
  clear h hby
  go_enter Try.func12, Try.ntmps12
  go_wp2_with fail
  refine (ref_FlashCopy f a c _ ?_ hn HB.out).mono ?_
  · exact HR.out.keep (Below.keeps (by go_grown)) (PageR.keep (Below.keeps (by go_grown)))
  rintro e w1 ⟨v, vs, rfl, hpm, hb⟩
  obtain ⟨va, vc, hv⟩ := own_slice hpm.row
  rw [hv] at hpm ⊢
  clear hv
  obtain ⟨hc, hfz, hz⟩ := bcell hb
  simp only [World.size_alloc] at hc hfz hz
  have hz0 : w.heap.size < w1.heap.size := by omega
  have hbw : Below w.heap.size w w1 := Below.trans (by go_grown) (hb.mono (by go_size))
  have c0 : w1.cell? ⟨w.heap.size, 0, none⟩ = some (.int .i64 f.most) := by rw [hc _ _ (by omega)]; go_simp
  have c1 : w1.cell? ⟨w.heap.size, 1, none⟩ = some (.int .i64 f.next) := by rw [hc _ _ (by omega)]; go_simp
  have c2 : w1.cell? ⟨w.heap.size, 2, none⟩ = some (.slice a f.pages.length c) := by rw [hc _ _ (by omega)]; go_simp
  have HP := Lib.hid hpm
  clear hpm hb hc hfz
  go_wp2_with fail
  refine (flash_Append f s va vc _ ?_).mono ?_
  · exact (HP.out.rows HR.out.pageB).keep (Below.keeps (by go_grown)) (PageR.keep (Below.keeps (by go_grown)))
  rintro e w2 ⟨v2, vs2, rfl, hp2, hb2⟩
  obtain ⟨R, hRR⟩ : ∃ R, R = f.append (bl s) := ⟨_, rfl⟩
  have HRR := Lib.hid hRR
  rw [← hRR] at hp2 ⊢
  clear hRR
  obtain ⟨⟨gm, gn, gp⟩, ⟨pg, po⟩, go, er⟩ := R
  simp only [AppV] at hp2 ⊢
  obtain ⟨a2, k2, hv2⟩ := own_slice hp2.row
  rw [hv2] at hp2 ⊢
  clear hv2
  have hz2 : w1.heap.size < w2.heap.size := by have := hb2.size; simp at this; omega
  have e0 : w2.cell? ⟨w.heap.size, 0, none⟩ = some (.int .i64 f.most) := (hb2.cell (p := ⟨w.heap.size, 0, none⟩) (by go_size)).trans (by go_simp)
  have e1 : w2.cell? ⟨w.heap.size, 1, none⟩ = some (.int .i64 f.next) := (hb2.cell (p := ⟨w.heap.size, 1, none⟩) (by go_size)).trans (by go_simp)
  have e2 : w2.cell? ⟨w.heap.size, 2, none⟩ = some (.slice a f.pages.length c) := (hb2.cell (p := ⟨w.heap.size, 2, none⟩) (by go_size)).trans (by go_simp)
  have d0 : w2.cell? ⟨w1.heap.size, 0, none⟩ = some (.int .i64 f.most) := (hb2.cell (p := ⟨w1.heap.size, 0, none⟩) (by go_size)).trans (by go_simp)
  have d1 : w2.cell? ⟨w1.heap.size, 1, none⟩ = some (.int .i64 f.next) := (hb2.cell (p := ⟨w1.heap.size, 1, none⟩) (by go_size)).trans (by go_simp)
  have d2 : w2.cell? ⟨w1.heap.size, 2, none⟩ = some (.slice va f.pages.length vc) := (hb2.cell (p := ⟨w1.heap.size, 2, none⟩) (by go_size)).trans (by go_simp)
  have hbw2 : Below w.heap.size w w2 := hbw.trans (Below.trans (by go_grown) (hb2.mono (by go_size)))
  have hkw2 : Below w1.heap.size w1 w2 := Below.trans (by go_grown) (hb2.mono (by go_size))
  have HP1 := Lib.hid (HP.out.below hkw2)
  have HP2 := Lib.hid hp2
  clear hp2 hb2 c0 c1 c2 hbw HP hkw2 hz0
  have hz0 : w.heap.size < w1.heap.size := by omega
  have hz20 : w.heap.size < w2.heap.size := by omega
  go_wp2_with fail
  refine (ref_AppendedOf f s a c _ ?_ (by omega) hs).mono ?_
  · exact HR.out.keep (Below.keeps (Below.trans hbw2 (by go_grown))) (PageR.keep (Below.keeps (Below.trans hbw2 (by go_grown))))
  rintro e w3 ⟨a3, k3, rfl, hr3, hb3⟩
  rw [← HRR.out] at hr3 ⊢
  simp only [AppV] at hr3 ⊢
  have hz3 : w2.heap.size + 1 < w3.heap.size := by have := hb3.size; simp at this; omega
  have x0 := (hb3.cell (p := ⟨w.heap.size, 0, none⟩) (by go_size)).trans (show _ = some (.int .i64 f.most) by go_simp)
  have x1 := (hb3.cell (p := ⟨w.heap.size, 1, none⟩) (by go_size)).trans (show _ = some (.int .i64 f.next) by go_simp)
  have x2 := (hb3.cell (p := ⟨w.heap.size, 2, none⟩) (by go_size)).trans (show _ = some (.slice a f.pages.length c) by go_simp)
  have y0 := (hb3.cell (p := ⟨w1.heap.size, 0, none⟩) (by go_size)).trans (show _ = some (.int .i64 f.most) by go_simp)
  have y1 := (hb3.cell (p := ⟨w1.heap.size, 1, none⟩) (by go_size)).trans (show _ = some (.int .i64 f.next) by go_simp)
  have y2 := (hb3.cell (p := ⟨w1.heap.size, 2, none⟩) (by go_size)).trans (show _ = some (.slice va f.pages.length vc) by go_simp)
  have g0 := (hb3.cell (p := ⟨w2.heap.size, 0, none⟩) (by go_size)).trans (show _ = some (.int .i64 gm) by go_simp)
  have g1 := (hb3.cell (p := ⟨w2.heap.size, 1, none⟩) (by go_size)).trans (show _ = some (.int .i64 gn) by go_simp)
  have g2 := (hb3.cell (p := ⟨w2.heap.size, 2, none⟩) (by go_size)).trans (show _ = some (.slice a2 gp.length k2) by go_simp)
  have p0 := (hb3.cell (p := ⟨w2.heap.size + 1, 0, none⟩) (by go_size)).trans (show _ = some (.int .i64 pg) by go_simp)
  have p1 := (hb3.cell (p := ⟨w2.heap.size + 1, 1, none⟩) (by go_size)).trans (show _ = some (.int .i64 po) by go_simp)
  have hk23 : Below w2.heap.size w2 w3 := Below.trans (by go_grown) (hb3.mono (by go_size))
  have hbw3 : Below w.heap.size w w3 := hbw2.trans (hk23.mono hbw2.size)
  have hr2 : RowsAt w3 a2 2 (PageR w3) gp := ((HP2.out.below hk23).rows hr3.pageB)
  have hrk : RowsAt w3 va 2 (PageR w3) f.pages := ((HP1.out.below hk23).rows HR.out.pageB)
  have hrf : RowsAt w3 a 2 (PageR w3) f.pages := HR.out.keep (Below.keeps hbw3) (PageR.keep (Below.keeps hbw3))
  have hgl : gp.length ≤ 9223372036854775807 := lenMax HP2.out
  have H2 := Lib.hid hr2
  have H3 := Lib.hid hr3
  have HK := Lib.hid hrk
  have HF := Lib.hid hrf
  clear hr2 hr3 hrk hrf hb3 hk23 e0 e1 e2 d0 d1 d2 HP1 HP2 HR hbw2
  have hz30 : w.heap.size < w3.heap.size := by omega
  have hz31 : w1.heap.size < w3.heap.size := by omega
  have hz32 : w2.heap.size < w3.heap.size := by omega
  have hfl : f.pages.length ≤ 9223372036854775807 := by omega
  go_wp2_with fail
  refine (same_flash ⟨gm, gn, gp⟩ a2 a3 k2 k3 _ ?_ ?_ hgl).mono ?_
  · exact H2.out.keep (Below.keeps (by go_grown)) (PageR.keep (Below.keeps (by go_grown)))
  · exact H3.out.keep (Below.keeps (by go_grown)) (PageR.keep (Below.keeps (by go_grown)))
  rintro e w4 ⟨rfl, hb4⟩
  have z0 := (hb4.cell (p := ⟨w.heap.size, 0, none⟩) (by go_size)).trans (show _ = some (.int .i64 f.most) by go_simp)
  have z1 := (hb4.cell (p := ⟨w.heap.size, 1, none⟩) (by go_size)).trans (show _ = some (.int .i64 f.next) by go_simp)
  have z2 := (hb4.cell (p := ⟨w.heap.size, 2, none⟩) (by go_size)).trans (show _ = some (.slice a f.pages.length c) by go_simp)
  have u0 := (hb4.cell (p := ⟨w1.heap.size, 0, none⟩) (by go_size)).trans (show _ = some (.int .i64 f.most) by go_simp)
  have u1 := (hb4.cell (p := ⟨w1.heap.size, 1, none⟩) (by go_size)).trans (show _ = some (.int .i64 f.next) by go_simp)
  have u2 := (hb4.cell (p := ⟨w1.heap.size, 2, none⟩) (by go_size)).trans (show _ = some (.slice va f.pages.length vc) by go_simp)
  have hk34 : Below w3.heap.size w3 w4 := Below.trans (by go_grown) (hb4.mono (by go_size))
  have hbw4 : Below w.heap.size w w4 := hbw3.trans (hk34.mono hbw3.size)
  have HK4 := Lib.hid (HK.out.keep (Below.keeps hk34) (PageR.keep (Below.keeps hk34)))
  have HF4 := Lib.hid (HF.out.keep (Below.keeps hk34) (PageR.keep (Below.keeps hk34)))
  clear x0 x1 x2 y0 y1 y2 g0 g1 g2 p0 p1 hb4 hk34 hbw3 HK HF H2 H3
  go_wp2_with fail
  refine (same_flash f va a vc c _ HK4.out HF4.out hfl).mono ?_
  rintro e w5 ⟨rfl, hb5⟩
  go_wp2_with fail
  go_ret
  exact ⟨rfl, hbw4.trans (hb5.mono hbw4.size)⟩

set_option maxRecDepth 100000 in
theorem enters {H : Type} {enc : TypeId × Value → H} {W : World} {base : Nat} {args : Array Value} {ds : List (DataW H)} {p : List MemPlace}
    (hval : ∀ (j : Nat) t v, Try.f12.params[j]? = some t → args[j]? = some v → Value.okWide Try.prog W .any base t v)
    (hA : DataW.TrodAll enc Try.prog W 0 (fun _ => true) true Try.f12.params.toList args.toList ds p) (hsz : ∀ m ∈ DataW.weightsEach Try.prog Try.f12.params.toList ds, m ≤ reachBytes) :
    Calls Try.prog 12 args W fun e W' => e = .returned (.bool true) ∧ Below W.heap.size W W' := by
  rw [Try.params12] at hA hval hsz
  obtain ⟨v0, vs0, d0, ds0, p0, q0, hargs, rfl, rfl, h0, r0⟩ := trodAll_cons hA
  obtain ⟨v1, vs1, d1, ds1, p1, q1, hargs1, rfl, rfl, h1, r1⟩ := trodAll_cons r0
  obtain ⟨rfl, rfl, rfl⟩ := trodAll_nil r1
  obtain rfl : args = #[v0, v1] := by cases args; simp_all
  obtain ⟨cs, rfl, hcs⟩ := okWide_struct Try.underlying28 (hval 0 28 v0 rfl rfl)
  obtain ⟨fuel, hf⟩ := h0
  obtain ⟨f, _, _, a, c, he, h3, h4, h5⟩ := read_flash hf (Wt.all hsz 0 rfl rfl)
  obtain rfl : cs = #[.int .i64 f.most, .int .i64 f.next, .slice a f.pages.length c] := by
    have : cs.toList = _ := he
    cases cs; simp_all
  obtain ⟨s, rfl, rfl, rfl, hs⟩ := open_string Try.underlying9 (hval 1 9 v1 rfl rfl) h1
  refine walk f s a c W h5 ?_ (fun p hp => Nat.le_trans (h5.pageB p hp).2 (by decide)) (le_maxLen hs)
  have : reachBytes = 140737488351232 := rfl
  omega

set_option maxRecDepth 100000 in
theorem lifted (os : Os) (started : os.Started) (H : Type) (enc : TypeId × Value → H) :
    ReturnsInHanded {} Try.checked os 12 .any (Rows.flashAppendsSpec.pre6 enc Try.prog Try.f12 Rows.flashAppendsRow.domain false) (Rows.flashAppendsSpec.post enc Try.prog Try.f12 false true false false) := by
  refine returnsInHanded_of_change_sized (C := Try.checked) D.own started (by kernel_rfl) Try.func12
    (ChangeSpec.witness6 (enc := enc) (C := Try.checked) false ⟨#[], #[.agg #[.int .i64 0, .int .i64 0, .slice none 0 0], .string ByteArray.empty], []⟩ 12 (by kernel_rfl) (by kernel_rfl) (by kernel_rfl) (by kernel_rfl)) ?_
  intro W base args ds gs before hval0 hW hcnd hsz0 _
  have hval : ∀ (j : Nat) t v, Try.f12.params[j]? = some t → args[j]? = some v → Value.okWide Try.prog W .any base t v := hval0
  have hW' := hW
  obtain ⟨p, q, hA0, hV, rfl, hfz, hnd⟩ := hW
  have hA : DataW.TrodAll enc Try.prog W 0 (fun _ => true) true Try.f12.params.toList args.toList ds p := hA0
  obtain ⟨rfl, rfl⟩ := trodVars_none hV
  have hsz : ∀ m ∈ DataW.weightsEach Try.prog Try.f12.params.toList ds, m ≤ reachBytes := by
    have h0 : (DataW.weightsEach Try.prog (Try.f12.params.toList ++ []) (ds ++ [])).all (· ≤ reachBytes) = true := hsz0
    rw [List.append_nil, List.append_nil] at h0
    intro m hm
    simpa using List.all_eq_true.1 h0 m hm
  have hds : Rows.flashAppendsSpec.fn H (ds ++ []) = { results := [.lit (.bool true)], args := ds } := by
    have hA1 := hA
    rw [Try.params12] at hA1
    obtain ⟨v0, vs0, d0, ds0, p0, q0, _, rfl, rfl, h0, r0⟩ := trodAll_cons hA1
    obtain ⟨v1, vs1, d1, ds1, p1, q1, _, rfl, rfl, h1, r1⟩ := trodAll_cons r0
    obtain ⟨_, rfl, rfl⟩ := trodAll_nil r1
    rfl
  refine (enters hval hA hsz).mono fun e W' ⟨he, hb⟩ => ⟨_, he, D.law_post rfl rfl hds (by kernel_rfl) hW' hb⟩
theorem proved : Rows.FlashAppendsSaid :=
  OpenClaim.holds_of_wide 12 Try.f12 rfl rfl rfl rfl rfl rfl rfl ⟨rfl, rfl, rfl, rfl, rfl⟩ rfl rfl rfl rfl rfl (by kernel_rfl) Try.func12 (by kernel_rfl)
    (of_decide_eq_true (by kernel_rfl)) (by unfold Func.isWrapper; first | (rw [if_pos (by decide +kernel)]; kernel_rfl) | (rw [if_neg (by decide +kernel)]; exact ⟨rfl, rfl⟩))
    (fun os started H enc _ => lifted os started H enc)
end Go.Proofs.Ytjhfomihlobjgaa.flashAppends
