/-
  PROVED: 'Rows.NamesSaid': the error numbers, kinds and limits of package api are the document's. No condition.
-/
import Derived.Test.YtjhfomihlobjgaaCLaw
import Derived.Deep.Cut
import Derived.Deep.QuietTactic
import Derived.BigQuiet
import Derived.Deep.DeepCutAuto
namespace Go.Proofs.Ytjhfomihlobjgaa.names
open Go.ChangeShapes Go.WideShapes Go.ChangeAt Go.RowKit Go.Proofs.Ytjhfomihlobjgaa.D

def first16 : List Value := [.int .i64 20, .int .i64 200, .int .i64 10, .int .i64 65535, .int .i64 1099511627776, .int .i64 300, .int .i64 8, .int .i64 256, .int .i64 40, .int .i64 20, .int .i64 24, .int .i64 1000, .int .i64 4, .int .i64 200000, .int .i64 200, .int .i64 1000]
def last30 : List Value := [.int .i64 1, .int .i64 2, .int .i64 3, .int .i64 4, .int .i64 5, .int .i64 6, .int .i64 7, .int .i64 8, .int .i64 9, .int .i64 10, .int .i64 11, .int .i64 12, .int .i64 13, .int .i64 1, .int .i64 2, .int .i64 3, .int .i64 4, .int .i64 5, .int .i64 6, .int .i64 7, .int .i64 8, .int .i64 9, .int .i64 10, .int .i64 11, .int .i64 12, .int .i64 1, .int .i64 2, .int .i64 3, .int .i64 4, .int .i64 5]

theorem ten (w : World) (k : Nat) (hk : k < 10) : (w.alloc (.cells #[.int .i64 0, .int .i64 1, .int .i64 2, .int .i64 3, .int .i64 4, .int .i64 5, .int .i64 6, .int .i64 7, .int .i64 8, .int .i64 9] 22)).cell? ⟨w.heap.size, k, none⟩ = some (.int .i64 (k : Int)) := by
  rw [cell_alloc_row]
  match k, hk with
  | 0, _ | 1, _ | 2, _ | 3, _ | 4, _ | 5, _ | 6, _ | 7, _ | 8, _ | 9, _ => rfl

set_option maxRecDepth 100000 in
set_option maxHeartbeats 1000000 in
theorem walk (w : World) :
    Calls Try.prog 3 #[] w fun e w' => e = .returned (.bool true) ∧ Below w.heap.size w w' := by
  have T := ten w
  have ht := Lib.hid T
  clear T
  go_enter Try.func3, Try.ntmps3
  go_wp2_with fail
  go_loop [2] (fun i => ∃ k : Nat, k ≤ 10 ∧ i = .int .i64 k) (fun i => 10 - (intOf i).toNat)
  case atStart => exact ⟨0, Nat.zero_le _, rfl⟩
  case round =>
    obtain ⟨k, hk, rfl⟩ := hrel
    by_cases hlt : k < 10
    · have hc := ht.out k hlt
      go_wp2
      go_round
      case rel => exact ⟨k + 1, by omega, by go_num⟩
      case measure => simp [intOf]; omega
    · obtain ⟨i0, hi, hz0, hz1, hz2⟩ := info_parts infoInt
      go_upto_region 8 with (fail)
      go_cut [3, 4] (fun a b wc => ∃ ga gb, a = .slice (some ⟨ga, 0, none⟩) 16 16 ∧ b = .slice (some ⟨gb, 0, none⟩) 16 16 ∧ ga ≠ gb ∧ wc.ownsRow w.heap.size 3 1 (.slice (some ⟨ga, 0, none⟩) 16 16) 16 first16 ∧ wc.ownsRow w.heap.size 3 1 (.slice (some ⟨gb, 0, none⟩) 16 16) 16 first16 ∧ Below w.heap.size w wc ∧ gb < wc.heap.size)
      case first =>
        go_wp2_with fail
        go_meet
        case rel =>
          refine ⟨_, _, rfl, rfl, by omega, (ownsRow_lit _ _ first16.toArray _ w.heap.size 16 1 ?_ rfl (by unfold maxLen; omega) ?_).alloc _, ownsRow_lit _ _ first16.toArray _ w.heap.size 16 1 ?_ rfl (by unfold maxLen; omega) ?_, by go_grown, by go_size⟩ <;> go_size
      case rest =>
        obtain ⟨ga, gb, rfl, rfl, hne, hA, hB, hbl, hgb⟩ := hcut
        have HA := Lib.hid hA
        have HB := Lib.hid hB
        have hz := hbl.size
        clear hA hB
        go_wp2_with (at_builtin; go_must (refine wpList_append_own _ rfl (.tmp 21) (.tmp 22) 24 rfl w.heap.size 3 i0 (.int .i64 0) 1 8 Try.underlying24 hi hz0 hz1 hz2 rfl (by decide) _ 16 first16 rfl (HA.out.alloc _) ⟨wc.heap.size, 0, none⟩ 30 30 last30 rfl rfl (news_lit _ _ _ _ _ rfl rfl) (ones rfl) (by unfold maxLen; omega) (by omega) (by go_size) ?_))
        intro v1 w1 hown1 hgrow1 _
        obtain ⟨g1, c1, hv1, hg1, hg1', hc1, _, hcell1⟩ := own_shape hown1 (by omega)
        rw [hv1] at hown1 ⊢
        have hB1 := (HB.out.alloc (.cells last30.toArray 3)).kept hgrow1 (.inr (by simp [Value.ownBlock]; omega))
        have hap := own_apart hown1 hB1 (by omega) (by omega)
        have hbl1 := (hbl.alloc hz (.cells last30.toArray 3)).grown hgrow1 (by go_size) (by intro k hk; have hka : ga = k := (by simpa [Value.ownBlock] using hk); exact hka ▸ (HA.out.lt _ rfl).1)
        have HO1 := Lib.hid hown1
        have HB1 := Lib.hid hB1
        have hs1 := hbl1.size
        have HC1 := Lib.hid hcell1
        clear hown1 hgrow1 HA HB hbl hB1 hcell1 hv1 ht
        go_wp2_with (at_builtin; go_must (refine wpList_append_own _ rfl (.tmp 24) (.tmp 25) 24 rfl w.heap.size 3 i0 (.int .i64 0) 1 8 Try.underlying24 hi hz0 hz1 hz2 rfl (by decide) _ 16 first16 rfl (HB1.out.alloc _) ⟨w1.heap.size, 0, none⟩ 30 30 last30 rfl rfl (news_lit _ _ _ _ _ rfl rfl) (ones rfl) (by unfold maxLen; omega) (by omega) (by go_size) ?_))
        intro v2 w2 hown2 hgrow2 _
        obtain ⟨g2, c2, hv2, hg2, hg2', hc2, _, hcell2⟩ := own_shape hown2 (by omega)
        rw [hv2]
        have hA2 := (HO1.out.alloc (.cells last30.toArray 3)).kept hgrow2 (.inr (by simp [Value.ownBlock]; omega))
        have hbl2 := (hbl1.alloc hs1 (.cells last30.toArray 3)).grown hgrow2 (by go_size) (by intro k hk; have hka : gb = k := (by simpa [Value.ownBlock] using hk); exact hka ▸ (HB1.out.lt _ rfl).1)
        obtain ⟨g3, c3, hv3, _, _, _, _, hcell3⟩ := own_shape hA2 (by omega)
        have HC2 := Lib.hid hcell2
        have HC3 : Hid (∀ j u, (first16 ++ last30)[j]? = some u → w2.cell? ⟨g1, j, none⟩ = some u) := by cases hv3; exact hcell3
        have HL : Hid (∀ j, j < 46 → ∃ n : Int, (first16 ++ last30)[j]? = some (.int .i64 n)) := by
          intro j hj
          have h : (List.range 46).all (fun j => match (first16 ++ last30)[j]? with | some (.int .i64 _) => true | _ => false) = true := rfl
          have := List.all_eq_true.1 h j (by simpa using hj)
          split at this
          · rename_i n hn; exact ⟨n, hn⟩
          · cases this
        clear hown2 hgrow2 HO1 HB1 HC1 hA2 hcell2 hcell3 hv2 hv3 hbl1
        go_wp2_with fail
        go_loopw [5] (fun i wr => ∃ k m : Nat, k ≤ 46 ∧ i = .int .i64 k ∧ wr = w2.drewN m) (fun i _ => 46 - (intOf i).toNat)
        case atStart => exact ⟨0, 0, Nat.zero_le _, rfl, rfl⟩
        case round =>
          obtain ⟨k, m, hk, rfl, rfl⟩ := hrel
          by_cases hlt : k < 46
          · obtain ⟨n, hn⟩ := HL.out k hlt
            have hca := HC3.out k _ hn
            have hcb := HC2.out k _ hn
            clear hn
            go_wp2_with fail
            go_quiet (fail)
            go_wp2
            go_roundw
            case rel => exact ⟨k + 1, _, by omega, by go_num, rfl⟩
            case measure => simp [intOf]; omega
          · go_wp2
            go_ret
            exact ⟨rfl, below_drewN hbl2 _⟩

set_option maxRecDepth 100000 in
theorem enters {H : Type} {enc : TypeId × Value → H} {W : World} {base : Nat} {args : Array Value} {ds : List (DataW H)} {p : List MemPlace}
    (hval : ∀ (j : Nat) t v, Try.f3.params[j]? = some t → args[j]? = some v → Value.okWide Try.prog W .any base t v)
    (hA : DataW.TrodAll enc Try.prog W 0 (fun _ => true) true Try.f3.params.toList args.toList ds p) :
    Calls Try.prog 3 args W fun e W' => e = .returned (.bool true) ∧ Below W.heap.size W W' := by
  rw [Try.params3] at hA hval
  obtain ⟨h0, _, _⟩ := trodAll_none hA
  obtain rfl : args = #[] := by cases args; simp_all
  exact walk W

set_option maxRecDepth 100000 in
theorem lifted (os : Os) (started : os.Started) (H : Type) (enc : TypeId × Value → H) :
    ReturnsInHanded {} Try.checked os 3 .any (Rows.namesSpec.pre6 enc Try.prog Try.f3 Rows.namesRow.domain false) (Rows.namesSpec.post enc Try.prog Try.f3 false true false false) := by
  refine returnsInHanded_of_change (C := Try.checked) D.own started (by kernel_rfl) Try.func3
    (ChangeSpec.witness6 (enc := enc) (C := Try.checked) false ⟨#[], #[], []⟩ 12 (by kernel_rfl) (by kernel_rfl) (by kernel_rfl) (by kernel_rfl)) ?_
  intro W base args ds gs before hval0 hW hcnd _
  have hval : ∀ (j : Nat) t v, Try.f3.params[j]? = some t → args[j]? = some v → Value.okWide Try.prog W .any base t v := hval0
  have hW' := hW
  obtain ⟨p, q, hA0, hV, rfl, hfz, hnd⟩ := hW
  have hA : DataW.TrodAll enc Try.prog W 0 (fun _ => true) true Try.f3.params.toList args.toList ds p := hA0
  obtain ⟨rfl, rfl⟩ := trodVars_none hV
  have hds : Rows.namesSpec.fn H (ds ++ []) = { results := [.lit (.bool true)], args := ds } := by
    have hA1 := hA
    rw [Try.params3] at hA1
    obtain ⟨_, rfl, _⟩ := trodAll_none hA1
    rfl
  refine (enters hval hA).mono fun e W' ⟨he, hb⟩ => ⟨_, he, D.law_post rfl rfl hds (by kernel_rfl) hW' hb⟩
theorem proved : Rows.NamesSaid :=
  OpenClaim.holds_of_wide 3 Try.f3 rfl rfl rfl rfl rfl rfl rfl ⟨rfl, rfl, rfl, rfl, rfl⟩ rfl rfl rfl rfl rfl (by kernel_rfl) Try.func3 (by kernel_rfl)
    (of_decide_eq_true (by kernel_rfl)) (by unfold Func.isWrapper; first | (rw [if_pos (by decide +kernel)]; kernel_rfl) | (rw [if_neg (by decide +kernel)]; exact ⟨rfl, rfl⟩))
    (fun os started H enc _ => lifted os started H enc)
end Go.Proofs.Ytjhfomihlobjgaa.names
