/-
  Plain law: what is there is not added, and what is not is not replaced, nor put behind. Nothing of the program stands here.
-/
import Derived.Test.YtbeegfkfpkfccaaGreatDoorYPAgain
namespace Go.Proofs.YtbeegfkfpkfccaaGreatDoor.D
def vMid : ByteArray := ⟨#[109, 105, 100]⟩
def vEnd : ByteArray := ⟨#[45, 101, 110, 100]⟩
def vBegin : ByteArray := ⟨#[98, 101, 103, 105, 110, 45]⟩
def vMidEnd : ByteArray := ⟨#[109, 105, 100, 45, 101, 110, 100]⟩
def vAll : ByteArray := ⟨#[98, 101, 103, 105, 110, 45, 109, 105, 100, 45, 101, 110, 100]⟩
abbrev putR (kd : Int) (k v : ByteArray) : Req := ⟨kd, k, [], 0, 0, 0, v, false⟩
/-- what is not there is not replaced -/
theorem not_there {s : Store} {k v : ByteArray} {kd : Int} (h : SOk s) (hu : s.uses ≤ 1099511627700) (hk : keyOK k = true) (hv : v.size ≤ 200) (hkd : kd = 4 ∨ kd = 5 ∨ kd = 6) (hout : bl k ∉ keysOf s.items) : doOf s (putR kd k v) = (s, ⟨3, 0, []⟩, 0) := by
  obtain ⟨h1, _, _⟩ := do_is h (fault_put (k := kd) (key := k) (v := v) (fl := 0) (exp := 0) (n := 0) (by omega) hk (by omega) (by omega) (by omega) (.inr rfl) hv) (by omega)
  have e : doReq s (putR kd k v) = (s, told 3) := by
    have e0 : doReq s (putR kd k v) = setReq s (putR kd k v) := by rcases hkd with rfl | rfl | rfl <;> rfl
    rw [e0]
    unfold setReq
    simp only [live_absent hout]
    rcases hkd with rfl | rfl | rfl <;> rfl
  rw [e] at h1
  exact h1
/-- what is there is not added -/
theorem there_not {s : Store} {k v : ByteArray} {i : Nat} {x : Item} (h : SOk s) (hu : s.uses ≤ 1099511627700) (hk : keyOK k = true) (hv : v.size ≤ 200) (hl : live s (bl k) = (s, some i)) (hi : s.items[i]? = some x) : doOf s (putR 3 k v) = (s, ⟨3, 0, []⟩, 0) := by
  obtain ⟨h1, _, _⟩ := do_is h (fault_put (k := 3) (key := k) (v := v) (fl := 0) (exp := 0) (n := 0) (by omega) hk (by omega) (by omega) (by omega) (.inr rfl) hv) (by omega)
  have e : doReq s (putR 3 k v) = (s, told 3) := by
    show setReq s (putR 3 k v) = _
    unfold setReq
    simp only [hl, Option.bind_some, hi]
    rfl
  rw [e] at h1
  exact h1
/-- what is there grows, and stays in its class -/
theorem grows {s : Store} {k v0 v v1 : ByteArray} {i : Nat} {c u : Int} {kd : Int} (h : SOk s) (hu : s.uses ≤ 1099511627700) (hcas : s.cas < maxN) (hk : keyOK k = true) (hkd : kd = 5 ∨ kd = 6) (hv1 : (if kd = 6 then v ++ v0 else v0 ++ v) = v1) (hv : v.size ≤ 200) (hs0 : 8 + k.size + v0.size ≤ 32) (hs1 : 8 + k.size + v1.size ≤ 32)
    (hl : live s (bl k) = (s, some i)) (hi : s.items[i]? = some ⟨k, 0, 0, c, u, v0, false, ⟨0, 0⟩⟩) :
    ∃ (T : Store) (j : Nat) (u' : Int), doOf s (putR kd k v) = (T, ⟨2, 0, []⟩, 0) ∧ SOk T ∧ T.uses ≤ s.uses + 10 ∧ T.cas = s.cas + 1 ∧ T.items[j]? = some ⟨k, 0, 0, s.cas + 1, u', v1, false, ⟨0, 0⟩⟩ := by
  have hks := keyOK_len hk
  obtain ⟨h1, h2, h3⟩ := do_is h (fault_put (k := kd) (key := k) (v := v) (fl := 0) (exp := 0) (n := 0) (by omega) hk (by omega) (by omega) (by omega) (.inr rfl) hv) (by omega)
  obtain ⟨y, hy⟩ : ∃ y : Item, y = ⟨k, 0, 0, 0, 0, v1, false, ⟨0, 0⟩⟩ := ⟨_, rfl⟩
  have hg : grownItem s (putR kd k v) ⟨k, 0, 0, c, u, v0, false, ⟨0, 0⟩⟩ = y := by rw [hy, ← hv1]; rfl
  have hmp : MayPut y := by rw [hy]; exact ⟨hk, by dsimp only; omega, by dsimp only; exact ⟨by omega, by decide⟩, by dsimp only; omega, rfl, rfl⟩
  have hyc : y.cls = 0 := by rw [hy]; exact cls_zero hks hs1
  have hp : (put s y).2 = true := put_again h hi (by rw [hy]) (by rw [hyc]; exact inCls_small hks hs0) hmp hcas
  have hput : put s y = ((put s y).1, true) := Prod.ext rfl hp
  obtain ⟨j, u', g1, g2, g3⟩ := put_here h hmp hput
  have hys : ¬ 200 < y.value.size := by rw [hy]; show ¬ 200 < v1.size; omega
  have e : doReq s (putR kd k v) = ((put s y).1, told 2) := by
    have e0 : doReq s (putR kd k v) = setReq s (putR kd k v) := by rcases hkd with rfl | rfl <;> rfl
    have e1 : setReq s (putR kd k v) = if 200 < (grownItem s (putR kd k v) ⟨k, 0, 0, c, u, v0, false, ⟨0, 0⟩⟩).value.size then (s, told 11) else stored s (grownItem s (putR kd k v) ⟨k, 0, 0, c, u, v0, false, ⟨0, 0⟩⟩) := by
      unfold setReq
      simp only [hl, Option.bind_some, hi]
      rcases hkd with rfl | rfl <;> rfl
    rw [e0, e1, hg, if_neg hys]
    unfold stored
    rw [hp]
    rfl
  rw [e] at h1 h2 h3
  exact ⟨_, j, u', h1, h2, h3, g2, by rw [g1, hy]⟩
theorem never_out {s : Store} (h : ∀ y ∈ keysOf s.items, y ∈ K8.map bl) : bl never ∉ keysOf s.items := fun hm => absurd (h _ hm) (by decide)
theorem adds_once {S : Store} (hP : Played 40 40 12 4 S) :
    (∀ kd : Int, kd = 4 ∨ kd = 5 ∨ kd = 6 → doOf S (putR kd never ⟨#[118]⟩) = (S, ⟨3, 0, []⟩, 0)) ∧
    ((∃ T, doOf S (putR 3 never vMid) = (T, ⟨11, 0, []⟩, 0)) ∨
     (∃ T U W Y : Store, ∃ cs : Int, doOf S (putR 3 never vMid) = (T, ⟨2, 0, []⟩, 0) ∧ doOf T (putR 3 never ⟨#[119]⟩) = (T, ⟨3, 0, []⟩, 0) ∧ doOf T (putR 5 never vEnd) = (U, ⟨2, 0, []⟩, 0) ∧
       doOf U (putR 6 never vBegin) = (W, ⟨2, 0, []⟩, 0) ∧ doOf W (getR never) = (Y, ⟨1, 0, [⟨never, 0, cs, vAll⟩]⟩, 0))) := by
  have hM : maxN = 1099511627776 := rfl
  have hu := hP.uses
  have hc := hP.cas
  refine ⟨fun kd hkd => not_there hP.ok (by omega) never_ok (by decide) hkd (never_out hP.keys), ?_⟩
  rcases set_new_key (v := vMid) hP.ok (by omega) never_ok (never_out hP.keys) (by decide) (.inr rfl) with h | ⟨T, i, u, t1, t2, t3, t4, t5, t6, t7⟩
  · exact .inl h
  · right
    have hl := live_here (k := bl never) t2.rise t6 rfl (by simp)
    have a1 := there_not (v := ⟨#[119]⟩) t2 (by omega) never_ok (by decide) hl t6
    obtain ⟨U, j, u2, b1, b2, b3, b4, b5⟩ := grows (kd := 5) (v := vEnd) (v1 := vMidEnd) t2 (by omega) (by omega) never_ok (.inl rfl) (by decide) (by decide) (by decide) (by decide) hl t6
    have hl2 := live_here (k := bl never) b2.rise b5 rfl (by simp)
    obtain ⟨W, j3, u3, c1, c2, c3, c4, c5⟩ := grows (kd := 6) (v := vBegin) (v1 := vAll) b2 (by omega) (by omega) never_ok (.inr rfl) (by decide) (by decide) (by decide) (by decide) hl2 b5
    have hl3 := live_here (k := bl never) c2.rise c5 rfl (by simp)
    obtain ⟨d1, _⟩ := get_hit c2 (by omega) never_ok hl3 c5
    exact ⟨T, U, W, _, _, t1, a1, b1, c1, d1⟩
end Go.Proofs.YtbeegfkfpkfccaaGreatDoor.D

