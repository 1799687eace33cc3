/-
  Plain law: numbers are counted up and down. Nothing of the program stands here.
-/
import Derived.Test.YtbeegfkfpkfccaaDoorYPlain
namespace Go.Proofs.YtbeegfkfpkfccaaDoor.D
def nK : ByteArray := ⟨#[110]⟩
/-- a store of one small item -/
def oneS (c u fl ca us : Int) (v : ByteArray) : Store := ⟨0, c, u, 4, 1, 0, 0, 0, [⟨nK, fl, 0, ca, us, v, false, ⟨0, 0⟩⟩], ⟨0, 1, []⟩⟩
def emptyS : Store := ⟨0, 0, 0, 4, 0, 0, 0, 0, [], ⟨0, 1, []⟩⟩
theorem empty_ok : SOk emptyS := (ok_iff _).1 (by decide)
theorem fk_one (c u fl ca us : Int) (v : ByteArray) : findKey (oneS c u fl ca us v).items (bl nK) = 0 := by
  show findKey (_ :: []) _ = 0
  rw [findKey_cons, if_neg (by rw [less_irrefl]; decide)]
theorem live_one (c u fl ca us : Int) (v : ByteArray) : live (oneS c u fl ca us v) (bl nK) = (oneS c u fl ca us v, some 0) := by
  unfold live
  simp only [fk_one]
  rfl
theorem cls_small {k v : Nat} (hk : 1 ≤ k ∧ k ≤ 20) (hv : 8 + k + v ≤ 32) : classOf k v = 0 := by
  unfold classOf
  rw [if_pos (by omega), if_pos (by omega)]
theorem put_one (c u fl ca us : Int) (v : ByteArray) (x : Item) (hk : x.key = nK) (hx : x.far = false) (hp : x.place = ⟨0, 0⟩) (ht : x.till = 0) (hv : x.value.size ≤ 23) (hc : c < 1000) :
    put (oneS c u fl ca us v) x = (oneS (c + 1) (u + 1) x.flags (c + 1) (u + 1) x.value, true) := by
  obtain ⟨key, flags, till, cas, used, value, far, place⟩ := x
  simp only at hk hx hp ht hv ⊢
  subst hk hx hp ht
  have hm : maxN = 1099511627776 := rfl
  have h1 : without (oneS c u fl ca us v) (bl nK) = { oneS c u fl ca us v with items := [] } := by
    unfold without hasKey
    simp only [fk_one]
    rfl
  have hcl : (Item.mk nK flags 0 cas used value false ⟨0, 0⟩).cls = 0 := cls_small (k := 1) (by omega) (by show 8 + 1 + value.size ≤ 32; omega)
  unfold put
  simp only [h1]
  rw [if_neg (by show ¬ c = maxN; omega), hcl]
  have hr : room { oneS c u fl ca us v with items := [] } 0 = ({ oneS c u fl ca us v with items := [] }, true) := by
    unfold room; rw [if_pos (by show (0:Int) < 8; omega)]; rfl
  rw [hr]
  rfl
theorem put_first (x : Item) (hk : x.key = nK) (hx : x.far = false) (hp : x.place = ⟨0, 0⟩) (ht : x.till = 0) (hv : x.value.size ≤ 23) :
    put emptyS x = (oneS 1 1 x.flags 1 1 x.value, true) := by
  obtain ⟨key, flags, till, cas, used, value, far, place⟩ := x
  simp only at hk hx hp ht hv ⊢
  subst hk hx hp ht
  have hm : maxN = 1099511627776 := rfl
  have h1 : without emptyS (bl nK) = emptyS := rfl
  have hcl : (Item.mk nK flags 0 cas used value false ⟨0, 0⟩).cls = 0 := cls_small (k := 1) (by omega) (by show 8 + 1 + value.size ≤ 32; omega)
  unfold put
  simp only [h1]
  rw [if_neg (by decide), hcl]
  have hr : room emptyS 0 = ({ emptyS with h0 := 1 }, true) := by
    unfold room; rw [if_neg (by decide), if_pos (by decide)]; rfl
  rw [hr]
  rfl
abbrev reqPut (k : Int) (key v : ByteArray) (fl : Int) : Req := ⟨k, key, [], fl, 0, 0, v, false⟩
abbrev reqNum (k : Int) (key : ByteArray) (n : Int) : Req := ⟨k, key, [], 0, 0, n, ⟨#[]⟩, false⟩
abbrev reqGet (k : ByteArray) : Req := ⟨1, ⟨#[]⟩, [k], 0, 0, 0, ⟨#[]⟩, false⟩
theorem key_n : keyOK nK = true := by decide
theorem set_n {v : ByteArray} (hv : v.size ≤ 23) : doOf emptyS (reqPut 2 nK v 3) = (oneS 1 1 3 1 1 v, ⟨2, 0, []⟩, 0) ∧ SOk (oneS 1 1 3 1 1 v) := by
  obtain ⟨h1, h2, _⟩ := do_is empty_ok (fault_put (k := 2) (key := nK) (v := v) (fl := 3) (exp := 0) (n := 0) (by omega) key_n (by omega) (by omega) (by omega) (.inr rfl) (by omega)) (by decide)
  have e : doReq emptyS (reqPut 2 nK v 3) = (oneS 1 1 3 1 1 v, ⟨2, 0, []⟩) := by
    show stored emptyS ⟨nK, 3, 0, 0, 0, v, false, ⟨0, 0⟩⟩ = _
    unfold stored
    rw [put_first _ rfl rfl rfl rfl hv]
    rfl
  rw [e] at h1 h2
  exact ⟨h1, h2⟩
theorem count_n {c u ca us : Int} {n m : Int} {k : Int} (hk : k = 9 ∨ k = 10) (h : SOk (oneS c u 3 ca us (decS n))) (hc : c < 1000) (hu : u < 1000) (hn : 0 ≤ n ∧ n ≤ maxN) (hm : 0 ≤ m ∧ m ≤ maxN) :
    let t := if k = 9 then min (n + m) maxN else max (n - m) 0
    doOf (oneS c u 3 ca us (decS n)) (reqNum k nK m) = (oneS (c + 1) (u + 1) 3 (c + 1) (u + 1) (decS t), ⟨7, t, []⟩, 0) ∧ SOk (oneS (c + 1) (u + 1) 3 (c + 1) (u + 1) (decS t)) := by
  intro t
  have hM : maxN = 1099511627776 := rfl
  obtain ⟨h1, h2, _⟩ := do_is h (fault_key (k := k) (key := nK) (exp := 0) (n := m) (by omega) key_n (by omega) (.inr rfl) (by omega) (by omega)) (by show u ≤ _; omega)
  have ht : 0 ≤ t ∧ t ≤ maxN := by show 0 ≤ (if k = 9 then _ else _) ∧ (if k = 9 then _ else _) ≤ maxN; split <;> omega
  have e : doReq (oneS c u 3 ca us (decS n)) (reqNum k nK m) = (oneS (c + 1) (u + 1) 3 (c + 1) (u + 1) (decS t), ⟨7, t, []⟩) := by
    have e0 : doReq (oneS c u 3 ca us (decS n)) (reqNum k nK m) = countReq (oneS c u 3 ca us (decS n)) (reqNum k nK m) := by
      unfold doReq; rw [if_neg (by show ¬ k = 1; omega), if_pos (by show k = 9 ∨ k = 10; omega)]
    rw [e0]
    unfold countReq
    simp only [live_one]
    have ex : (oneS c u 3 ca us (decS n)).items[0]? = some ⟨nK, 3, 0, ca, us, decS n, false, ⟨0, 0⟩⟩ := rfl
    simp only [Option.bind_some, ex]
    have hv : valueOf (oneS c u 3 ca us (decS n)) ⟨nK, 3, 0, ca, us, decS n, false, ⟨0, 0⟩⟩ = decS n := rfl
    rw [hv, num_dec hn, if_neg (by omega)]
    have hct : counted (reqNum k nK m) n = t := rfl
    rw [hct, put_one _ _ _ _ _ _ _ rfl rfl rfl rfl (by have := decS_small ht; show (decS t).size ≤ 23; omega) hc]
    rfl
  rw [e] at h1 h2
  exact ⟨h1, h2⟩
theorem get_n {c u fl ca us : Int} {v : ByteArray} (h : SOk (oneS c u fl ca us v)) (hu : u < 1000) :
    doOf (oneS c u fl ca us v) (reqGet nK) = (oneS c (u + 1) fl ca (u + 1) v, ⟨1, 0, [⟨nK, fl, ca, v⟩]⟩, 0) ∧ SOk (oneS c (u + 1) fl ca (u + 1) v) := by
  obtain ⟨h1, h2, _⟩ := do_is h (fault_get (ks := [nK]) (by simp) (by simp [key_n])) (by show u ≤ _; omega)
  have e : doReq (oneS c u fl ca us v) (reqGet nK) = (oneS c (u + 1) fl ca (u + 1) v, ⟨1, 0, [⟨nK, fl, ca, v⟩]⟩) := by
    show ((got _ [nK]).1, Reply.mk 1 0 (got _ [nK]).2) = _
    have : got (oneS c u fl ca us v) [nK] = got1 (oneS c u fl ca us v, []) nK := rfl
    rw [this]
    unfold got1
    simp only [live_one]
    rfl
  rw [e] at h1 h2
  exact ⟨h1, h2⟩
theorem append_n {c u fl ca us : Int} {v z : ByteArray} (h : SOk (oneS c u fl ca us v)) (hc : c < 1000) (hu : u < 1000) (hz : (v ++ z).size ≤ 23) (hz2 : z.size ≤ 23) :
    ∃ t, doOf (oneS c u fl ca us v) (reqPut 5 nK z 0) = (t, ⟨2, 0, []⟩, 0) := by
  obtain ⟨h1, h2, _⟩ := do_is h (fault_put (k := 5) (key := nK) (v := z) (fl := 0) (exp := 0) (n := 0) (by omega) key_n (by omega) (by omega) (by omega) (.inr rfl) (by omega)) (by show u ≤ _; omega)
  have e : doReq (oneS c u fl ca us v) (reqPut 5 nK z 0) = (oneS (c + 1) (u + 1) fl (c + 1) (u + 1) (v ++ z), ⟨2, 0, []⟩) := by
    show setReq (oneS c u fl ca us v) (reqPut 5 nK z 0) = _
    unfold setReq
    simp only [live_one]
    have hg : ∀ b : Bool, grownItem (oneS c u fl ca us v) (reqPut 5 nK z 0) ⟨nK, fl, 0, ca, us, v, false, ⟨0, 0⟩⟩ = ⟨nK, fl, 0, 0, 0, v ++ z, false, ⟨0, 0⟩⟩ := fun _ => rfl
    show (if 200 < (grownItem (oneS c u fl ca us v) (reqPut 5 nK z 0) ⟨nK, fl, 0, ca, us, v, false, ⟨0, 0⟩⟩).value.size then _ else stored _ (grownItem (oneS c u fl ca us v) (reqPut 5 nK z 0) ⟨nK, fl, 0, ca, us, v, false, ⟨0, 0⟩⟩)) = _
    rw [hg true, if_neg (by show ¬ 200 < (v ++ z).size; omega)]
    unfold stored
    rw [put_one _ _ _ _ _ _ _ rfl rfl rfl rfl hz hc]
    rfl
  rw [e] at h1
  exact ⟨_, h1⟩
end Go.Proofs.YtbeegfkfpkfccaaDoor.D
