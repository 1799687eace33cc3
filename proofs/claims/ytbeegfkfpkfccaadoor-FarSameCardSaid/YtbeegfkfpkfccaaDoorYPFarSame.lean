/-
  Plain law: a value that went to flash is the same there. Nothing of the program stands here.
-/
import Derived.Test.YtbeegfkfpkfccaaDoorYPOldest
namespace Go.Proofs.YtbeegfkfpkfccaaDoor.D
def fK : ByteArray := ⟨#[102, 105, 114, 115, 116]⟩
def pre : ByteArray := ⟨#[97, 32, 118, 97, 108, 117, 101, 32, 111, 102, 32, 109, 111, 114, 101, 32, 116, 104, 97, 110, 32, 97, 32, 102, 101, 119, 32, 98, 121, 116, 101, 115, 44, 32, 115, 111, 32, 116, 104, 97, 116, 32, 105, 116, 32, 109, 97, 121, 32, 103, 111, 32]⟩
def kn (i : Nat) : ByteArray := ⟨#[107, 101, 121, 45, UInt8.ofNat (48 + i)]⟩
theorem kn_dec {i : Nat} (h : i < 10) : (⟨#[107, 101, 121, 45]⟩ : ByteArray) ++ decS i = kn i := by rw [dec_one h]; rfl
theorem kn_ok : ∀ i, i < 10 → keyOK (kn i) = true ∧ bytesLess (bl fK) (bl (kn i)) = true
  | 0, _ => by decide
  | 1, _ => by decide
  | 2, _ => by decide
  | 3, _ => by decide
  | 4, _ => by decide
  | 5, _ => by decide
  | 6, _ => by decide
  | 7, _ => by decide
  | 8, _ => by decide
  | 9, _ => by decide
  | n + 10, h => absurd h (by omega)
theorem fK_ok : keyOK fK = true := by decide
/-- the texts of numbers below 1000 -/
theorem dec_len {m : Int} (h : 0 ≤ m ∧ m < 1000) : 1 ≤ (decS m).size ∧ (decS m).size ≤ 3 := by
  have h1 : ∀ k : Int, 0 ≤ k → k < 10 → (decS k).size = 1 := fun k h0 h1 => by
    obtain ⟨u, rfl⟩ : ∃ u : Nat, k = u := ⟨k.toNat, by omega⟩
    rw [dec_one (by omega)]; rfl
  by_cases a : m < 10
  · rw [h1 m h.1 a]; omega
  · rw [dec_pos (by omega), ByteArray.size_append, h1 (m % 10) (by omega) (by omega)]
    by_cases b : m / 10 < 10
    · rw [h1 _ (by omega) b]; omega
    · rw [dec_pos (by omega), ByteArray.size_append, h1 (m / 10 % 10) (by omega) (by omega), h1 (m / 10 / 10) (by omega) (by omega)]; omega
theorem pre_size : pre.size = 52 := rfl
theorem cls_two {k v : Nat} (hk : k = 5) (hv : 52 ≤ v ∧ v ≤ 100) : classOf k v = 2 := by
  unfold classOf
  rw [if_pos (by omega), if_neg (by omega), if_neg (by omega), if_pos (by omega)]
/-- where something is counted there is an oldest one -/
theorem last_neg {l : List Item} {c : Int} : ∀ {k : Nat}, k ≤ l.length → lastTo l c k < 0 → countIn (l.take k) c = 0
  | 0, _, _ => countIn_zero l c
  | k + 1, hk, h => by
    rw [countIn_step (by omega)]
    cases hx : inCls (l[k]'(by omega)) c with
    | false =>
      rw [lastTo_skip (by omega) hx] at h
      rw [last_neg (by omega) h]; rfl
    | true =>
      have hr := lastTo_range l c k
      rcases (by omega : lastTo l c k < 0 ∨ 0 ≤ lastTo l c k) with h0 | h0
      · rw [lastTo_first (by omega) hx h0] at h; omega
      · exfalso
        obtain ⟨j, hj⟩ : ∃ j : Nat, lastTo l c k = j := ⟨(lastTo l c k).toNat, by omega⟩
        by_cases hu : (l[k]'(by omega)).used < (l[j]'(by omega)).used
        · rw [lastTo_less (by omega) hx hj (by omega) hu] at h; omega
        · rw [lastTo_more (by omega) hx hj (by omega) hu] at h; omega
theorem away_len (s : Store) (i : Nat) : (away s i).items.length ≤ s.items.length := by
  unfold away
  split
  · exact Nat.le_refl _
  · dsimp only
    split
    · dsimp only
      split
      · exact Nat.le_trans (List.length_filter_le _ _) (by rw [List.length_modify]; exact Nat.le_refl _)
      · rw [List.length_modify]; exact Nat.le_refl _
    · exact List.length_eraseIdx_le _ _
theorem room_true {s : Store} (h2 : 1 ≤ s.h2) (hl : s.items.length < 1000) : (room s 2).2 = true := by
  unfold room
  split
  · exact decide_eq_true hl
  · rename_i h1
    split
    · exact decide_eq_true hl
    · split
      · rename_i h3
        have := away_len s (oldest s.items 2).toNat
        exact decide_eq_true (by omega)
      · rename_i h3
        exfalso
        have := last_neg (l := s.items) (c := 2) (k := s.items.length) (Nat.le_refl _) (by unfold oldest at h3; omega)
        rw [List.take_length] at this
        have hh : s.held 2 = s.h2 := rfl
        have hp : per 2 = 2 := rfl
        rw [this, hh, hp] at h1
        omega
/-- the first item, on flash -/
def fI (u : Int) : Item := ⟨fK, 0, 0, 1, u, ByteArray.empty, true, ⟨1, 0⟩⟩
/-- the first item is on flash, and stays there -/
structure Hd (v : ByteArray) (m n : Nat) (s : Store) : Prop where
  h2 : 1 ≤ s.h2
  cas : s.cas ≤ 3 + n
  uses : s.uses ≤ 3 + n
  len : s.items.length ≤ 3 + n
  items : ∃ u rest, s.items = fI u :: rest ∧ ∀ x ∈ rest, x.far = false → x.value = v
  fl : ∃ r, s.flash = ⟨3, 2, [⟨1, recordOf (bl v) ++ r⟩]⟩ ∧ r.length ≤ m * 58
theorem Hd.more {v : ByteArray} {m n : Nat} {s : Store} (h : Hd v m n s) : Hd v (m + 1) n s :=
  ⟨h.h2, h.cas, h.uses, h.len, h.items, h.fl.imp fun r hr => ⟨hr.1, by have := hr.2; omega⟩⟩
theorem Hd.erase {v : ByteArray} {m n : Nat} {s : Store} (h : Hd v m n s) {j : Nat} (hj : 1 ≤ j) : Hd v m n { s with items := s.items.eraseIdx j } := by
  obtain ⟨u, rest, e, hr⟩ := h.items
  obtain ⟨j, rfl⟩ : ∃ i, j = i + 1 := ⟨j - 1, by omega⟩
  refine ⟨h.h2, h.cas, h.uses, ?_, ⟨u, rest.eraseIdx j, ?_, fun x hx => hr x (List.mem_of_mem_eraseIdx hx)⟩, h.fl⟩
  · exact Nat.le_trans (List.length_eraseIdx_le _ _) h.len
  · show s.items.eraseIdx (j + 1) = _; rw [e]; rfl
theorem Hd.find {v : ByteArray} {m n : Nat} {s : Store} (h : Hd v m n s) {k : Str} (hk : bytesLess (bl fK) k = true) : 1 ≤ findKey s.items k := by
  obtain ⟨u, rest, e, hr⟩ := h.items
  rw [e, findKey_cons, if_pos (show bytesLess (bl (fI u).key) k = true from hk)]; omega
theorem Hd.live {v : ByteArray} {m n : Nat} {s : Store} (h : Hd v m n s) {k : Str} (hk : bytesLess (bl fK) k = true) : Hd v m n (D.live s k).1 := by
  rcases live_le (s := s) (k := k) with e | e
  · rw [e]; exact h
  · rw [e]; exact h.erase (h.find hk)
theorem Hd.without {v : ByteArray} {m n : Nat} {s : Store} (h : Hd v m n s) {k : Str} (hk : bytesLess (bl fK) k = true) : Hd v m n (D.without s k) := by
  unfold D.without
  split
  · exact h.erase (h.find hk)
  · exact h
theorem app_fit {b v : Str} (hok : (Flash.mk 3 2 [⟨1, b⟩]).ok = true) (hl : b.length + 3 + v.length ≤ 256) (hv : v.length ≤ 200) :
    (Flash.mk 3 2 [⟨1, b⟩]).append v = (⟨3, 2, [⟨1, b ++ recordOf v⟩]⟩, ⟨1, b.length⟩, 0, 0) := by
  have hm : maxN = 1099511627776 := rfl
  unfold Flash.append
  rw [if_neg (by rw [hok]; decide), if_neg (by omega), if_neg (by simp [hm])]
  simp [hl]
theorem app_empty {v : Str} (hv : v.length ≤ 200) : (Flash.mk 3 1 []).append v = (⟨3, 2, [⟨1, recordOf v⟩]⟩, ⟨1, 0⟩, 0, 0) := by
  have hm : maxN = 1099511627776 := rfl
  unfold Flash.append
  rw [if_neg (by decide), if_neg (by omega), if_neg (by simp [hm])]
  rfl
theorem inCls_of_far {x : Item} {c : Int} (h : x.far = true) : inCls x c = false := by unfold inCls; rw [h]; rfl
theorem Hd.room {v : ByteArray} {m n : Nat} {s : Store} (h : Hd v m n s) (hk : SOk s) (hm : m ≤ 2) (hv : 53 ≤ v.size ∧ v.size ≤ 55) : Hd v (m + 1) n (D.room s 2).1 := by
  unfold D.room
  split
  · exact h.more
  · split
    · have h' := h.more
      exact ⟨by show 1 ≤ s.h2 + 1; have := h.h2; omega, h'.cas, h'.uses, h'.len, h'.items, h'.fl⟩
    · split
      · rename_i h3
        obtain ⟨hi, hc⟩ := oldest_in h3
        obtain ⟨u, rest, e, hr⟩ := h.items
        obtain ⟨r, hf, hrl⟩ := h.fl
        show Hd v (m + 1) n (D.away s (lastTo s.items 2 s.items.length).toNat)
        obtain ⟨i, hie⟩ : ∃ i, i = (lastTo s.items 2 s.items.length).toNat := ⟨_, rfl⟩
        rw [← hie]
        simp only [← hie] at hi hc
        rcases i with _ | i
        · exfalso
          simp only [e, List.getElem_cons_zero] at hc
          rw [inCls_of_far rfl] at hc; cases hc
        · simp only [e, List.getElem_cons_succ] at hc
          have hil : i < rest.length := by rw [e] at hi; simpa using hi
          have hfar : rest[i].far = false := by
            cases hx : rest[i].far with
            | false => rfl
            | true => rw [inCls_of_far hx] at hc; cases hc
          have hval := hr _ (List.getElem_mem hil) hfar
          have hbl := bl_len v
          have hrec := rec_len (bl v)
          have hap := app_fit (b := recordOf (bl v) ++ r) (v := bl v) (by rw [← hf]; exact hk.flash) (by rw [List.length_append]; omega) (by omega)
          unfold D.away
          rw [List.getElem?_eq_getElem hi]
          simp only [e, List.getElem_cons_succ, hval, hf, hap]
          rw [if_pos ⟨by omega, by trivial⟩, if_neg (by omega)]
          refine ⟨h.h2, h.cas, h.uses, ?_, ⟨u, rest.modify i fun x => { x with value := ByteArray.empty, far := true, place := ⟨1, ((recordOf (bl v) ++ r).length : Int)⟩ }, ?_, ?_⟩, ⟨r ++ recordOf (bl v), ?_, ?_⟩⟩
          · show (List.modify _ _ _).length ≤ _
            rw [List.length_modify, ← e]; exact h.len
          · rfl
          · intro x hx hxf
            rcases mem_modify hx with hx | ⟨_, rfl⟩
            · exact hr x hx hxf
            · cases hxf
          · show Flash.mk _ _ _ = _; rw [List.append_assoc]
          · rw [List.length_append]; omega
      · exact h.more
theorem Hd.with1 {v : ByteArray} {m n : Nat} {s : Store} (h : Hd v m n s) {x : Item} (hx : x.value = v) (hk : bytesLess (bl fK) (bl x.key) = true) : Hd v m (n + 1) (D.with1 s x) := by
  have hfk := h.find hk
  have hle := findKey_le s.items (bl x.key)
  obtain ⟨u, rest, e, hr⟩ := h.items
  obtain ⟨j, hj⟩ : ∃ j, findKey s.items (bl x.key) = j + 1 := ⟨findKey s.items (bl x.key) - 1, by omega⟩
  have hcas := h.cas; have huses := h.uses; have hlen := h.len
  refine ⟨h.h2, by show s.cas + 1 ≤ _; omega, by show s.uses + 1 ≤ _; omega, ?_, ⟨u, rest.insertIdx j { x with cas := s.cas + 1, used := s.uses + 1 }, ?_, ?_⟩, h.fl⟩
  · show (s.items.insertIdx _ _).length ≤ _
    rw [List.length_insertIdx]; split <;> omega
  · show s.items.insertIdx _ _ = _
    rw [hj, e]; rfl
  · intro y hy hyf
    rcases mem_insert (by rw [hj, e, List.length_cons] at hle; omega) hy with rfl | hy
    · exact hx
    · exact hr y hy hyf
/-- one item more -/
theorem far_set {v k : ByteArray} {m n : Nat} {s : Store} (h : Hd v m n s) (hk : SOk s) (hm : m ≤ 2) (hn : n ≤ 100) (hv : 53 ≤ v.size ∧ v.size ≤ 55) (hkey : keyOK k = true) (hks : k.size = 5) (hkl : bytesLess (bl fK) (bl k) = true) :
    ∃ s', doOf s (reqPut 2 k v 0) = (s', ⟨2, 0, []⟩, 0) ∧ SOk s' ∧ Hd v (m + 1) (n + 1) s' := by
  have hM : maxN = 1099511627776 := rfl
  have hus := h.uses
  obtain ⟨h1, h2, _⟩ := do_is hk (fault_put (k := 2) (key := k) (v := v) (fl := 0) (exp := 0) (n := 0) (by omega) hkey (by omega) (by omega) (by omega) (.inr rfl) (by omega)) (by omega)
  have hl := h.live hkl
  have hw := hl.without hkl
  have hwo := (hk.live (bl k)).without (bl k)
  have hrt := room_true hw.h2 (by have := hw.len; omega)
  have hr := hw.room hwo.1 hm hv
  obtain ⟨x, hx⟩ : ∃ x, x = newItem (D.live s (bl k)).1 (reqPut 2 k v 0) := ⟨_, rfl⟩
  have hxk : x.key = k := by rw [hx]; rfl
  have hxv : x.value = v := by rw [hx]; rfl
  have hxc : x.cls = 2 := by unfold Item.cls; rw [hxk, hxv]; exact cls_two (by omega) (by omega)
  have hwx := hr.with1 hxv (by rw [hxk]; exact hkl)
  have e : doReq s (reqPut 2 k v 0) = (D.with1 (D.room (D.without (D.live s (bl k)).1 (bl k)) 2).1 x, ⟨2, 0, []⟩) := by
    show stored (D.live s (bl k)).1 (newItem (D.live s (bl k)).1 (reqPut 2 k v 0)) = _
    rw [← hx]
    unfold stored put
    simp only [hxk, hxc]
    rw [if_neg (by have := hw.cas; omega), hrt]
    rfl
  rw [e] at h1 h2
  exact ⟨_, h1, h2, hwx⟩
/-- a new store, and the first three items -/
def F0 : Store := ⟨0, 0, 0, 1, 0, 0, 0, 0, [], ⟨3, 1, []⟩⟩
def F1 (v : ByteArray) : Store := ⟨0, 1, 1, 1, 0, 0, 1, 0, [⟨fK, 0, 0, 1, 1, v, false, ⟨0, 0⟩⟩], ⟨3, 1, []⟩⟩
def F2 (v : ByteArray) : Store := ⟨0, 2, 2, 1, 0, 0, 1, 0, [⟨fK, 0, 0, 1, 1, v, false, ⟨0, 0⟩⟩, ⟨kn 0, 0, 0, 2, 2, v, false, ⟨0, 0⟩⟩], ⟨3, 1, []⟩⟩
def F3 (v : ByteArray) : Store := ⟨0, 3, 3, 1, 0, 0, 1, 0, [fI 1, ⟨kn 0, 0, 0, 2, 2, v, false, ⟨0, 0⟩⟩, ⟨kn 1, 0, 0, 3, 3, v, false, ⟨0, 0⟩⟩], ⟨3, 2, [⟨1, recordOf (bl v)⟩]⟩⟩
theorem F0_is : newS 1 3 = (F0, 0) := by kernel_rfl
theorem F0_ok : SOk F0 := (ok_iff _).1 (by decide)
theorem inCls_in {k v : ByteArray} {c u : Int} (hk : k.size = 5) (hv : 53 ≤ v.size ∧ v.size ≤ 55) : inCls ⟨k, 0, 0, c, u, v, false, ⟨0, 0⟩⟩ 2 = true := by
  have : Item.cls ⟨k, 0, 0, c, u, v, false, ⟨0, 0⟩⟩ = 2 := cls_two hk (by show 52 ≤ v.size ∧ v.size ≤ 100; omega)
  unfold inCls; rw [this]; rfl
theorem far_step {s s' : Store} {k v : ByteArray} {x : Item} (hk : SOk s) (hu : s.uses ≤ 1000) (hc : s.cas ≤ 1000) (hkey : keyOK k = true) (hks : k.size = 5) (hv : 53 ≤ v.size ∧ v.size ≤ 55) (hl : (live s (bl k)).1 = s) (hw : without s (bl k) = s) (hx : newItem s (reqPut 2 k v 0) = x) (hr : room s 2 = (s', true)) :
    doOf s (reqPut 2 k v 0) = (with1 s' x, ⟨2, 0, []⟩, 0) ∧ SOk (with1 s' x) := by
  have hM : maxN = 1099511627776 := rfl
  obtain ⟨h1, h2, _⟩ := do_is hk (fault_put (k := 2) (key := k) (v := v) (fl := 0) (exp := 0) (n := 0) (by omega) hkey (by omega) (by omega) (by omega) (.inr rfl) (by omega)) (by omega)
  have hxk : x.key = k := by rw [← hx]; rfl
  have hxc : x.cls = 2 := by unfold Item.cls; rw [← hx]; exact cls_two hks (by show 52 ≤ v.size ∧ v.size ≤ 100; omega)
  have e : doReq s (reqPut 2 k v 0) = (with1 s' x, ⟨2, 0, []⟩) := by
    show stored (live s (bl k)).1 (newItem (live s (bl k)).1 (reqPut 2 k v 0)) = _
    rw [hl, hx]
    unfold stored put
    simp only [hxk, hxc, hw, hr]
    rw [if_neg (by omega)]
    rfl
  rw [e] at h1 h2
  exact ⟨h1, h2⟩
theorem to_F1 {v : ByteArray} (hv : 53 ≤ v.size ∧ v.size ≤ 55) : doOf F0 (reqPut 2 fK v 0) = (F1 v, ⟨2, 0, []⟩, 0) ∧ SOk (F1 v) :=
  far_step (s' := { F0 with h2 := 1 }) F0_ok (by decide) (by decide) fK_ok rfl hv rfl rfl rfl (by kernel_rfl)
theorem to_F2 {v : ByteArray} (hv : 53 ≤ v.size ∧ v.size ≤ 55) : doOf (F1 v) (reqPut 2 (kn 0) v 0) = (F2 v, ⟨2, 0, []⟩, 0) ∧ SOk (F2 v) := by
  refine far_step (s' := F1 v) (to_F1 hv).2 (by show (1:Int) ≤ 1000; omega) (by show (1:Int) ≤ 1000; omega) (kn_ok 0 (by omega)).1 rfl hv (by kernel_rfl) (by kernel_rfl) rfl ?_
  have hc : countIn (F1 v).items 2 = 1 := by
    show countIn [_] 2 = 1
    rw [countIn_cons, inCls_in rfl hv]; rfl
  have hh : (F1 v).held 2 * per 2 = 2 := by kernel_rfl
  unfold room
  rw [hc, hh, if_pos (by omega)]
  rfl
theorem to_F3 {v : ByteArray} (hv : 53 ≤ v.size ∧ v.size ≤ 55) : doOf (F2 v) (reqPut 2 (kn 1) v 0) = (F3 v, ⟨2, 0, []⟩, 0) ∧ SOk (F3 v) := by
  have hs : away (F2 v) 0 = { F2 v with items := [fI 1, ⟨kn 0, 0, 0, 2, 2, v, false, ⟨0, 0⟩⟩], flash := ⟨3, 2, [⟨1, recordOf (bl v)⟩]⟩ } := by
    have hbl := bl_len v
    have he : (F2 v).items[0]? = some ⟨fK, 0, 0, 1, 1, v, false, ⟨0, 0⟩⟩ := rfl
    have hf : (F2 v).flash = ⟨3, 1, []⟩ := rfl
    unfold away
    rw [he]
    simp only [hf, app_empty (v := bl v) (by omega)]
    rw [if_pos ⟨by omega, trivial⟩, if_neg (by omega)]
    rfl
  refine far_step (s' := { F2 v with items := [fI 1, ⟨kn 0, 0, 0, 2, 2, v, false, ⟨0, 0⟩⟩], flash := ⟨3, 2, [⟨1, recordOf (bl v)⟩]⟩ }) (to_F2 hv).2 (by show (2:Int) ≤ 1000; omega) (by show (2:Int) ≤ 1000; omega) (kn_ok 1 (by omega)).1 rfl hv (by kernel_rfl) (by kernel_rfl) rfl ?_
  have hc : countIn (F2 v).items 2 = 2 := by
    show countIn [_, _] 2 = 2
    rw [countIn_cons, countIn_cons, inCls_in rfl hv, inCls_in rfl hv]; rfl
  have hh : (F2 v).held 2 * per 2 = 2 := by kernel_rfl
  have ho : oldest (F2 v).items 2 = 0 := by
    have h1 : lastTo (F2 v).items 2 1 = 0 := lastTo_first (k := 0) (by show 0 < 2; omega) (inCls_in rfl hv) (by show (-1:Int) < 0; omega)
    exact lastTo_more (k := 1) (m := 0) (by show 1 < 2; omega) (inCls_in rfl hv) h1 (by show 0 < 2; omega) (by show ¬ (2:Int) < 1; omega)
  unfold room
  rw [hc, hh, if_neg (by omega), if_neg (by show ¬ (0:Int) + 0 + 1 + 0 < 1; omega), ho, if_pos (by omega)]
  show (away (F2 v) 0, decide ((away (F2 v) 0).items.length < 1000)) = _
  rw [hs]
  rfl
theorem F3_hd (v : ByteArray) : Hd v 0 0 (F3 v) := by
  refine ⟨by show (1:Int) ≤ 1; omega, by show (3:Int) ≤ 3 + (0:Nat); omega, by show (3:Int) ≤ 3 + (0:Nat); omega, by show 3 ≤ 3 + 0; omega, ⟨1, _, rfl, ?_⟩, ⟨[], ?_, by simp⟩⟩
  · intro x hx _
    simp at hx
    rcases hx with rfl | rfl <;> rfl
  · rw [List.append_nil]; rfl
theorem read_first {v : ByteArray} {r : Str} {f : Flash} (hf : f = ⟨3, 2, [⟨1, recordOf (bl v) ++ r⟩]⟩) (hok : f.ok = true) (hv : v.size ≤ 200) : f.read ⟨1, 0⟩ = (bl v, 0) := by
  have hbl := bl_len v
  have hrec := rec_len (bl v)
  have h1 : findRec (recordOf (bl v) ++ r) 0 0 = some (bl v) := by
    rw [findRec_hit (b := recordOf (bl v) ++ r) (k := 0) (q := 0) (by rw [List.length_append]; omega) rfl]
    have hl := lenAt_rec [] (bl v) (by omega)
    have h2 := valAt_rec [] (bl v) (by omega)
    simp only [List.nil_append, List.length_nil] at hl h2
    rw [valAt_app (by omega) (by rw [hl]; omega), h2]
  unfold Flash.read Flash.pageOf
  rw [if_neg (by rw [hok]; decide), hf]
  simp [h1]
theorem first_live {s : Store} {u : Int} {rest : List Item} (e : s.items = fI u :: rest) : live s (bl fK) = (s, some 0) := by
  have hf : findKey s.items (bl fK) = 0 := by
    rw [e, findKey_cons, if_neg]
    show ¬ bytesLess (bl fK) (bl fK) = true
    rw [less_irrefl]; decide
  unfold live
  simp only [hf]
  rw [e]
  rfl
theorem value_first {v : ByteArray} {s : Store} {u : Int} (hk : SOk s) {r : Str} (hf : s.flash = ⟨3, 2, [⟨1, recordOf (bl v) ++ r⟩]⟩) (hv : v.size ≤ 200) : valueOf s (fI u) = v := by
  show (⟨(s.flash.read ⟨1, 0⟩).1.toArray⟩ : ByteArray) = v
  rw [read_first hf hk.flash hv]
  apply ByteArray.ext
  simp [bl]
/-- at the end: what is found, and that it still may grow -/
theorem far_end {v : ByteArray} {m n : Nat} {s : Store} (h : Hd v m n s) (hk : SOk s) (hn : n ≤ 100) (hv : 53 ≤ v.size ∧ v.size ≤ 55) :
    ∃ t t', doOf s (reqGet fK) = (t, ⟨1, 0, [⟨fK, 0, 1, v⟩]⟩, 0) ∧ doOf t (reqPut 5 fK ⟨#[33]⟩ 0) = (t', ⟨2, 0, []⟩, 0) := by
  have hM : maxN = 1099511627776 := rfl
  have hus := h.uses
  obtain ⟨u, rest, e, hr⟩ := h.items
  obtain ⟨r, hf, hrl⟩ := h.fl
  obtain ⟨h1, h2, _⟩ := do_is hk (fault_get (ks := [fK]) (by simp) (by simp [fK_ok])) (by omega)
  have ed : doReq s (reqGet fK) = (asked s 0, ⟨1, 0, [⟨fK, 0, 1, v⟩]⟩) := by
    show ((got s [fK]).1, Reply.mk 1 0 (got s [fK]).2) = _
    have hg : got s [fK] = got1 (s, []) fK := rfl
    have h0 : s.items[0]? = some (fI u) := by rw [e]; rfl
    rw [hg]
    unfold got1
    simp only [first_live e, h0, value_first hk hf (by omega)]
    rfl
  rw [ed] at h1 h2
  have e2 : (asked s 0).items = fI (s.uses + 1) :: rest := by show s.items.modify 0 _ = _; rw [e]; rfl
  have h0 : (asked s 0).items[0]? = some (fI (s.uses + 1)) := by rw [e2]; rfl
  obtain ⟨g1, g2, _⟩ := do_is h2 (fault_put (k := 5) (key := fK) (v := ⟨#[33]⟩) (fl := 0) (exp := 0) (n := 0) (by omega) fK_ok (by omega) (by omega) (by omega) (.inr rfl) (by decide)) (by show s.uses + 1 ≤ _; omega)
  have hval : valueOf (asked s 0) (fI (s.uses + 1)) = v := value_first h2 (show (asked s 0).flash = _ from hf) (by omega)
  have hz : (v ++ (⟨#[33]⟩ : ByteArray)).size = v.size + 1 := by rw [ByteArray.size_append]; rfl
  obtain ⟨x, hx⟩ : ∃ x, x = grownItem (asked s 0) (reqPut 5 fK ⟨#[33]⟩ 0) (fI (s.uses + 1)) := ⟨_, rfl⟩
  have hxk : x.key = fK := by rw [hx]; rfl
  have hxv : x.value = v ++ (⟨#[33]⟩ : ByteArray) := by
    rw [hx]
    show (if (5:Int) = 6 then (⟨#[33]⟩ : ByteArray) ++ valueOf (asked s 0) (fI (s.uses + 1)) else valueOf (asked s 0) (fI (s.uses + 1)) ++ (⟨#[33]⟩ : ByteArray)) = _
    rw [if_neg (by omega), hval]
  have hxc : x.cls = 2 := by unfold Item.cls; rw [hxk, hxv]; exact cls_two rfl (by omega)
  have hw : (without (asked s 0) (bl fK)).h2 = s.h2 ∧ (without (asked s 0) (bl fK)).items.length ≤ s.items.length ∧ (without (asked s 0) (bl fK)).cas = s.cas := by
    unfold without
    have : (asked s 0).items.length = s.items.length := by rw [e2, e]; rfl
    split
    · exact ⟨rfl, by rw [← this]; exact List.length_eraseIdx_le _ _, rfl⟩
    · exact ⟨rfl, by omega, rfl⟩
  have hrt := room_true (s := without (asked s 0) (bl fK)) (by rw [hw.1]; exact h.h2) (by have := h.len; omega)
  have eg : doReq (asked s 0) (reqPut 5 fK ⟨#[33]⟩ 0) = ((put (asked s 0) x).1, ⟨2, 0, []⟩) := by
    show setReq (asked s 0) (reqPut 5 fK ⟨#[33]⟩ 0) = _
    unfold setReq
    simp only [first_live e2, Option.bind_some, h0]
    show (if 200 < (grownItem (asked s 0) (reqPut 5 fK ⟨#[33]⟩ 0) (fI (s.uses + 1))).value.size then _ else stored _ (grownItem (asked s 0) (reqPut 5 fK ⟨#[33]⟩ 0) (fI (s.uses + 1)))) = _
    rw [← hx, if_neg (by rw [hxv]; omega)]
    unfold stored
    have hp : (put (asked s 0) x).2 = true := by
      unfold put
      simp only [hxk, hxc]
      rw [if_neg (by rw [hw.2.2]; have := h.cas; omega), hrt]
      rfl
    rw [hp]
    rfl
  rw [eg] at g1
  exact ⟨_, _, h1, g1⟩
end Go.Proofs.YtbeegfkfpkfccaaDoor.D
