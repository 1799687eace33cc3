/-
 Plain law: the bytes of a store that may be read as that store; with one more byte, or with one byte changed, they do not. Nothing of the program stands here.
-/
import Derived.Test.YtbeegfkfpkfccaaGreatDoorYPOnce
import Derived.Test.YtbeegfkfpkfccaaGreatDoorYPPlay
namespace Go.Proofs.YtbeegfkfpkfccaaGreatDoor.D
/-- numbers are read as they were written -/
theorem rdN_sev : ∀ (m p k n : Nat) (r : Str), p ≤ m → p < 128 ^ (6 - k) → (0 < k → 0 < p) → rdN k n (sev p ++ r) = (n + p * 128 ^ k, r, 0)
 | m, p, k, n, r, hm, hp, hk => by
  have hk6 : k < 6 := by
   apply Decidable.byContradiction
   intro h
   rw [show 6 - k = 0 by omega] at hp
   have := hk (by omega)
   omega
  by_cases hs : p < 128
  ·rw [sev_small hs]
   have e : (UInt8.ofNat p).toNat = p := u8_back (by omega)
   show rdN k n (UInt8.ofNat p :: r) = _
   rw [rdN_last (by rw [e]; omega) (by rw [e]; exact hs), e, Nat.mod_eq_of_lt hs]
  ·rw [sev_big hs]
   have e : (UInt8.ofNat (128 + p % 128)).toNat = 128 + p % 128 := u8_back (by omega)
   cases m with
   | zero => omega
   | succ m =>
    show rdN k n (UInt8.ofNat (128 + p % 128) :: (sev (p / 128) ++ r)) = _
    rw [rdN_more (by rw [e]; omega) (by rw [e]; omega), e]
    have hp2 : p / 128 < 128 ^ (6 - (k + 1)) := by
     rw [show 6 - k = (6 - (k + 1)) + 1 by omega, Nat.pow_succ] at hp
     omega
    rw [rdN_sev m (p / 128) (k + 1) _ r (by omega) hp2 (fun _ => by omega), Nat.pow_succ, show (128 + p % 128) % 128 = p % 128 by omega]
    have h1 : p * 128 ^ k = (p % 128) * 128 ^ k + (p / 128) * (128 ^ k * 128) := by
     rw [Nat.mul_comm (128 ^ k) 128, ← Nat.mul_assoc, ← Nat.add_mul]
     congr 1
     omega
    rw [h1, Nat.add_assoc]
theorem num_sev {n : Int} (r : Str) (h : 0 ≤ n ∧ n ≤ 1099511627776) : (⟨sev n.toNat ++ r, 0⟩ : Rd).num = (n, ⟨r, 0⟩) := by
 rw [num_ok _ rfl]
 have := rdN_sev n.toNat n.toNat 0 0 r (Nat.le_refl _) (by show _ < 128 ^ 6; rw [show 128 ^ 6 = 4398046511104 by decide]; omega) (fun h => absurd h (by omega))
 simp only [this, Nat.pow_zero, Nat.mul_one, Nat.zero_add]
 congr 1
 omega
theorem many_sev {n m : Int} (r : Str) (h : 0 ≤ n ∧ n ≤ m) (hm : m ≤ 1000) : (⟨sev n.toNat ++ r, 0⟩ : Rd).many m = (n, ⟨r, 0⟩) := by
 unfold Rd.many
 rw [num_sev r (by omega)]
 exact if_neg (by show ¬ m < n; omega)
theorem text_text {v : Str} {m : Int} (r : Str) (h : (v.length : Int) ≤ m) (hm : m ≤ 1000) : (⟨textOf v ++ r, 0⟩ : Rd).text m = (v, ⟨r, 0⟩) := by
 have e := many_sev (n := (v.length : Int)) (v ++ r) (m := m) ⟨by omega, h⟩ hm
 rw [Int.toNat_natCast] at e
 unfold Rd.text textOf
 rw [List.append_assoc, e]
 simp only [ne_eq, not_true_eq_false, if_false]
 rw [if_neg (by rw [List.length_append]; omega), Int.toNat_natCast, List.take_left, List.drop_left]
theorem mkB_bl (k : ByteArray) : mkB (bl k) = k := by
 apply ByteArray.ext
 simp [mkB, bl]
/-- an item that may be -/
structure ItemFit (x : Item) : Prop where
 nums : ItemNums x
 far : x.far = true → x.value.size = 0
 near : x.far = false → x.place = ⟨0, 0⟩
theorem item_reads {x : Item} (r : Str) (h : ItemFit x) : (⟨itemBytes x ++ r, 0⟩ : Rd).item = (x, ⟨r, 0⟩) := by
 obtain ⟨⟨k1, f1, t1, c1, u1, v1, p1⟩, hf, hn⟩ := h
 obtain ⟨key, flags, till, cas, used, value, far, ⟨page, off⟩⟩ := x
 simp only at k1 f1 t1 c1 u1 v1 p1 hf hn
 unfold Rd.item itemBytes
 simp only [List.append_assoc]
 rw [text_text _ (by rw [bl_len]; omega) (by omega)]
 simp only
 rw [num_sev _ (by omega)]
 simp only
 rw [num_sev _ (by omega)]
 simp only
 rw [num_sev _ (by omega)]
 simp only
 rw [num_sev _ (by omega)]
 simp only
 cases far with
 | true =>
  have hp := p1 rfl
  have hv := hf rfl
  have e1 := num_sev (n := 1) (sev page.toNat ++ (sev off.toNat ++ r)) (by omega)
  rw [show (1 : Int).toNat = 1 from rfl] at e1
  simp only [if_true, List.append_assoc]
  rw [e1]
  simp only
  unfold Rd.tail
  rw [if_neg (by omega), if_pos rfl, num_sev _ (by omega)]
  simp only
  rw [num_sev _ (by omega)]
  simp only [mkB_bl]
  have : mkB [] = value := by
   rw [← mkB_bl value]
   congr 1
   exact (List.eq_nil_of_length_eq_zero (by rw [bl_len]; exact hv)).symm
  rw [this]
 | false =>
  have hp := hn rfl
  rw [Place.mk.injEq] at hp
  obtain ⟨rfl, rfl⟩ := hp
  have e1 := num_sev (n := 0) (textOf (bl value) ++ r) (by omega)
  rw [show (0 : Int).toNat = 0 from rfl] at e1
  simp only [Bool.false_eq_true, if_false, List.append_assoc]
  rw [e1]
  simp only
  unfold Rd.tail
  rw [if_pos rfl, text_text _ (by rw [bl_len]; omega) (by omega)]
  simp only [mkB_bl]
theorem items_reads : ∀ (l : List Item) (n i : Nat) (r : Str), n = i + l.length → (∀ x ∈ l, ItemFit x) → Rd.items n i ⟨itemsBytes l ++ r, 0⟩ = (l, ⟨r, 0⟩)
 | [], n, i, r, hn, _ => by rw [items_stop (by simp at hn; omega)]; rfl
 | x :: l, n, i, r, hn, h => by
  simp only [List.length_cons] at hn
  rw [items_go (by omega) rfl]
  have e : itemsBytes (x :: l) ++ r = itemBytes x ++ (itemsBytes l ++ r) := by simp [itemsBytes]
  rw [e, item_reads _ (h x (by simp))]
  simp only
  rw [items_reads l n (i + 1) r (by omega) (fun y hy => h y (by simp [hy]))]
theorem pages_reads (next : Int) : ∀ (l : List Page) (n i : Nat) (r : Str), n = i + l.length → pagesOK l (next - n + i) = true → Rd.pages next n i ⟨pagesBytes l ++ r, 0⟩ = (l, ⟨r, 0⟩)
 | [], n, i, r, hn, _ => by rw [pages_stop (by simp at hn; omega)]; rfl
 | p :: l, n, i, r, hn, h => by
  simp only [List.length_cons] at hn
  rw [pages_go (by omega) rfl]
  rw [pagesOK_cons] at h
  simp only [Bool.and_eq_true, decide_eq_true_eq] at h
  obtain ⟨⟨h1, _⟩, h3⟩ := h
  have e : pagesBytes (p :: l) ++ r = textOf p.bytes ++ (pagesBytes l ++ r) := by simp [pagesBytes]
  rw [e, text_text _ (by omega) (by omega)]
  simp only
  rw [pages_reads next l n (i + 1) r (by omega) (by rw [show next - n + ((i + 1 : Nat) : Int) = next - n + i + 1 by omega]; exact h3)]
  simp only
  rw [← h1.1]
def tailOf (s : Store) : Str := sevs (numsOf s) ++ pagesBytes s.flash.pages ++ sev s.items.length ++ itemsBytes s.items
theorem body_tail (s : Store) : bodyOf s = [100, 99, 49] ++ tailOf s := by
 unfold bodyOf tailOf
 simp only [List.append_assoc]
theorem fits {s : Store} (h : SOk s) : ∀ x ∈ s.items, ItemFit x := by
 intro x hx
 have hm : maxN = 1099511627776 := rfl
 have hi := h.items x hx
 have h1 := h.cas
 have h2 := h.uses
 have := item_nums hi (by omega) (by omega)
 rw [itemOK_iff] at hi
 exact ⟨this, fun hf => (hi.2.2.2.2.2.2.1 hf).2.1, hi.2.2.2.2.2.2.2⟩
theorem store_reads {s : Store} (r : Str) (h : SOk s) : Rd.store ⟨tailOf s ++ r, 0⟩ = (s, ⟨r, 0⟩) := by
 have hit := fits h
 have hn := store_nums ((ok_iff s).2 h)
 have hfl := flash_nums h.flash
 have hpo := (fok_parts h.flash).2
 have hlen := h.len
 obtain ⟨clock, cas, uses, most, h0, h1, h2, h3, items, ⟨fm, nx, pages⟩⟩ := s
 obtain ⟨n1, n2, n3, n4, n5, n6, n7, n8, _, _, _⟩ := hn
 simp only at hit n1 n2 n3 n4 n5 n6 n7 n8 hfl hpo hlen
 have e : tailOf ⟨clock, cas, uses, most, h0, h1, h2, h3, items, ⟨fm, nx, pages⟩⟩ ++ r = sev clock.toNat ++ (sev cas.toNat ++ (sev uses.toNat ++ (sev most.toNat ++ (sev h0.toNat ++ (sev h1.toNat ++ (sev h2.toNat ++ (sev h3.toNat ++ (sev fm.toNat ++ (sev nx.toNat ++ (sev ((pages.length : Int)).toNat ++ (pagesBytes pages ++ (sev ((items.length : Int)).toNat ++ (itemsBytes items ++ r))))))))))))) := by
  simp [tailOf, sevs, numsOf]
 rw [e]
 obtain ⟨R, hR⟩ : ∃ R, R = sev ((pages.length : Int)).toNat ++ (pagesBytes pages ++ (sev ((items.length : Int)).toNat ++ (itemsBytes items ++ r))) := ⟨_, rfl⟩
 rw [← hR]
 have hh := head_of (num_sev (n := clock) (sev cas.toNat ++ (sev uses.toNat ++ (sev most.toNat ++ (sev h0.toNat ++ (sev h1.toNat ++ (sev h2.toNat ++ (sev h3.toNat ++ (sev fm.toNat ++ (sev nx.toNat ++ R))))))))) (by omega)).symm
  (num_sev (n := cas) _ (by omega)).symm (num_sev (n := uses) _ (by omega)).symm (num_sev (n := most) _ (by omega)).symm (num_sev (n := h0) _ (by omega)).symm (num_sev (n := h1) _ (by omega)).symm
  (num_sev (n := h2) _ (by omega)).symm (num_sev (n := h3) _ (by omega)).symm (num_sev (n := fm) _ (by omega)).symm (num_sev (n := nx) R (by omega)).symm
 have hP := pages_reads nx pages pages.length 0 (sev ((items.length : Int)).toNat ++ (itemsBytes items ++ r)) (by omega) (by
  rw [show nx - (pages.length : Int) + ((0 : Nat) : Int) = nx - pages.length by omega]; exact hpo)
 have hX := items_reads items items.length 0 r (by omega) hit
 rw [Int.toNat_natCast] at hP
 have hpg : Rd.paged ⟨sev clock.toNat ++ (sev cas.toNat ++ (sev uses.toNat ++ (sev most.toNat ++ (sev h0.toNat ++ (sev h1.toNat ++ (sev h2.toNat ++ (sev h3.toNat ++ (sev fm.toNat ++ (sev nx.toNat ++ R))))))))), 0⟩ =
   (⟨clock, cas, uses, most, h0, h1, h2, h3, [], ⟨fm, nx, pages⟩⟩, ⟨sev ((items.length : Int)).toNat ++ (itemsBytes items ++ r), 0⟩) := by
  unfold Rd.paged Rd.withPages
  rw [hh]
  simp only
  rw [hR, many_sev _ (by omega) (by omega)]
  simp only [Int.toNat_natCast]
  rw [hP]
 unfold Rd.store Rd.withItems
 rw [hpg]
 simp only
 rw [many_sev _ (by omega) (by omega)]
 simp only [Int.toNat_natCast]
 rw [hX]
theorem seal_len (l : Str) : (sealOf l).length = 4 := rfl
theorem take_back (l m : Str) (h : m.length = 4) : (l ++ m).take ((l ++ m).length - 4) = l ∧ (l ++ m).drop ((l ++ m).length - 4) = m := by
 have : (l ++ m).length - 4 = l.length := by rw [List.length_append, h]; omega
 rw [this]
 exact ⟨List.take_left, List.drop_left⟩
/-- the bytes of a store read as it -/
theorem decode_bytes {s : Store} (h : SOk s) (hl : (bodyOf s).length ≤ 190000) : decode (bodyOf s ++ sealOf (bodyOf s)) = (s, 0) := by
 obtain ⟨e1, e2⟩ := take_back (bodyOf s) (sealOf (bodyOf s)) (seal_len _)
 have h3 : 3 ≤ (bodyOf s).length := by rw [body_tail]; simp
 have hlen : (bodyOf s ++ sealOf (bodyOf s)).length = (bodyOf s).length + 4 := by rw [List.length_append, seal_len]
 rw [decode_body (by omega) (by omega) (by rw [body_tail]; rfl) (by rw [e1, e2])]
 have e3 : bodyIn (bodyOf s ++ sealOf (bodyOf s)) = tailOf s ++ [] := by unfold bodyIn; rw [e1, body_tail, List.append_nil]; rfl
 rw [e3, store_reads [] h]
 unfold answer Rd.fin
 simp [(ok_iff s).2 h]
/-- one more byte -/
theorem decode_more {s : Store} (h : SOk s) (hl : (bodyOf s).length ≤ 190000) (c : UInt8) : (decode (bodyOf s ++ sealOf (bodyOf s) ++ [c])).2 ≠ 0 := by
 obtain ⟨a0, a1, a2, a3, ha⟩ : ∃ a0 a1 a2 a3, sealOf (bodyOf s) = [a0, a1, a2, a3] := ⟨_, _, _, _, rfl⟩
 have h3 : 3 ≤ (bodyOf s).length := by rw [body_tail]; simp
 rw [ha, List.append_assoc]
 have e0 : bodyOf s ++ ([a0, a1, a2, a3] ++ [c]) = (bodyOf s ++ [a0]) ++ [a1, a2, a3, c] := by simp
 rw [e0]
 obtain ⟨e1, e2⟩ := take_back (bodyOf s ++ [a0]) [a1, a2, a3, c] rfl
 have hlen : (bodyOf s ++ [a0] ++ [a1, a2, a3, c]).length = (bodyOf s).length + 5 := by simp
 by_cases hs : sealOf ((bodyOf s ++ [a0] ++ [a1, a2, a3, c]).take ((bodyOf s ++ [a0] ++ [a1, a2, a3, c]).length - 4)) = (bodyOf s ++ [a0] ++ [a1, a2, a3, c]).drop ((bodyOf s ++ [a0] ++ [a1, a2, a3, c]).length - 4)
 ·rw [decode_body (by omega) (by omega) (by rw [body_tail]; rfl) hs]
  have e3 : bodyIn (bodyOf s ++ [a0] ++ [a1, a2, a3, c]) = tailOf s ++ [a0] := by unfold bodyIn; rw [e1, body_tail]; rfl
  rw [e3, store_reads [a0] h]
  unfold answer Rd.fin
  simp
 ·rw [decode_seal (by omega) (by omega) (by rw [body_tail]; rfl) hs]
  simp
/-- what the sum says of the bytes -/
def total (l : Str) : Nat := (l.map UInt8.toNat).sum
theorem ad_total : ∀ (l : Str) (p : Nat × Nat), (l.foldl adStep p).1 % 65521 = (p.1 + total l) % 65521
 | [], p => by simp [total]
 | c :: l, p => by
  rw [List.foldl_cons, ad_total l]
  unfold adStep total
  simp only [List.map_cons, List.sum_cons]
  omega
theorem total_set : ∀ (l : Str) (j : Nat) (c : UInt8) (hj : j < l.length), total (l.set j c) + l[j].toNat = total l + c.toNat
 | [], j, c, hj => by simp at hj
 | d :: l, 0, c, _ => by simp [total]; omega
 | d :: l, j + 1, c, hj => by
  have := total_set l j c (by simpa using hj)
  simp only [total, List.set_cons_succ, List.map_cons, List.sum_cons, List.getElem_cons_succ] at this ⊢
  omega
theorem ad_set {l : Str} {j : Nat} (c : UInt8) (hj : j < l.length) (hc : c ≠ l[j]) : (ad (l.set j c)).1 ≠ (ad l).1 := by
 intro he
 have h1 := ad_total l (1, 0)
 have h2 := ad_total (l.set j c) (1, 0)
 have h3 := total_set l j c hj
 have h4 := c.toNat_lt
 have h5 := l[j].toNat_lt
 have h6 : c.toNat ≠ l[j].toNat := fun h => hc (UInt8.toNat_inj.1 h)
 unfold ad at he
 rw [he, h1] at h2
 simp only at h2
 generalize total (l.set j c) = a at *
 generalize total l = b at *
 omega
theorem seal_ad {l m : Str} (h : sealOf l = sealOf m) : (ad l).1 = (ad m).1 := by
 unfold sealOf at h
 simp only [List.cons.injEq, and_true] at h
 obtain ⟨_, _, h1, h2⟩ := h
 have a1 := (ad_lt l).1
 have a2 := (ad_lt m).1
 have k1 := congrArg UInt8.toNat h1
 have k2 := congrArg UInt8.toNat h2
 rw [u8_back (by omega), u8_back (by omega)] at k1 k2
 omega
/-- one byte changed -/
theorem decode_spoilt {l : Str} {j : Nat} (c : UInt8) (hl : l.length ≤ 190000) (hj : j < (l ++ sealOf l).length) (hc : c ≠ (l ++ sealOf l)[j]) : (decode ((l ++ sealOf l).set j c)).2 ≠ 0 := by
 have hlen : ((l ++ sealOf l).set j c).length = l.length + 4 := by rw [List.length_set, List.length_append, seal_len]
 rw [List.length_append, seal_len] at hj
 by_cases h7 : ((l ++ sealOf l).set j c).length < 7
 ·rw [decode_short (by omega) h7]; simp
 by_cases h3 : ((l ++ sealOf l).set j c).take 3 = [100, 99, 49]
 rotate_left
 ·rw [decode_form (by omega) h7 h3]; simp
 rw [decode_seal (by omega) h7 h3 ?_]
 ·simp
 by_cases hb : j < l.length
 ·rw [List.set_append_left _ _ hb]
  rw [List.getElem_append_left hb] at hc
  obtain ⟨e1, e2⟩ := take_back (l.set j c) (sealOf l) (seal_len _)
  rw [e1, e2]
  exact fun h => ad_set c hb hc (seal_ad h)
 ·rw [List.set_append_right _ _ (by omega)]
  rw [List.getElem_append_right (by omega)] at hc
  obtain ⟨e1, e2⟩ := take_back l ((sealOf l).set (j - l.length) c) (by rw [List.length_set, seal_len])
  rw [e1, e2]
  intro h
  have h4 : j - l.length < ((sealOf l).set (j - l.length) c).length := by rw [List.length_set, seal_len]; omega
  have h5 : ((sealOf l).set (j - l.length) c)[j - l.length] = c := List.getElem_set_self _
  have h6 : (sealOf l)[j - l.length]? = some c := by
   rw [h, List.getElem?_eq_getElem h4, h5]
  rw [List.getElem?_eq_getElem (by rw [seal_len]; omega)] at h6
  exact hc (Option.some.inj h6).symm
/-- how long the bytes are -/
theorem sev_num {n : Int} (h : 0 ≤ n ∧ n ≤ 1099511627776) : (sev n.toNat).length ≤ 10 := sev_le (by omega)
theorem flat_len {α : Type} (f : α → Str) (b : Nat) : ∀ l : List α, (∀ x ∈ l, (f x).length ≤ b) → (l.flatMap f).length ≤ l.length * b
 | [], _ => by simp
 | x :: l, h => by
  have h1 := h x (by simp)
  have h2 := flat_len f b l (fun y hy => h y (by simp [hy]))
  rw [List.flatMap_cons, List.length_append, List.length_cons, Nat.succ_mul]
  omega
theorem item_len {x : Item} (h : ItemNums x) : (itemBytes x).length ≤ 300 := by
 obtain ⟨h1, h2, h3, h4, h5, h6, h7⟩ := h
 have a1 := textOf_len (bl x.key) (by rw [bl_len]; omega)
 have a2 := textOf_len (bl x.value) (by rw [bl_len]; omega)
 rw [bl_len] at a1 a2
 have b1 := sev_num (n := x.flags) (by omega)
 have b2 := sev_num (n := x.till) (by omega)
 have b3 := sev_num (n := x.cas) (by omega)
 have b4 := sev_num (n := x.used) (by omega)
 have c0 : (sev 0).length = 1 := by rw [sev_small (by omega)]; rfl
 have c1 : (sev 1).length = 1 := by rw [sev_small (by omega)]; rfl
 unfold itemBytes
 cases hf : x.far with
 | true =>
  have hp := h7 hf
  have d1 := sev_num (n := x.place.page) (by omega)
  have d2 := sev_num (n := x.place.off) (by omega)
  simp only [if_true, List.length_append]
  omega
 | false =>
  simp only [Bool.false_eq_true, if_false, List.length_append]
  omega
theorem body_len {s : Store} (h : SOk s) (hi : s.items.length ≤ 100) : (bodyOf s).length ≤ 100000 := by
 have hn := store_nums ((ok_iff s).2 h)
 have hfl := flash_nums h.flash
 have a1 : (sevs (numsOf s)).length ≤ (numsOf s).length * 10 := flat_len _ 10 _ (fun n hx => by
  obtain ⟨k, hk, rfl⟩ := List.getElem_of_mem hx
  exact sev_num (nums_ok hn k hk))
 have a2 : (pagesBytes s.flash.pages).length ≤ s.flash.pages.length * 266 := flat_len _ 266 _ (fun p hp => by
  have h1 := pagesOK_num _ _ (fok_parts h.flash).2 p hp
  have := textOf_len p.bytes (by omega)
  omega)
 have a3 : (itemsBytes s.items).length ≤ s.items.length * 300 := flat_len _ 300 _ (fun x hx => item_len (hn.items x hx))
 have a4 := sev_le (n := s.items.length) (by omega)
 have a5 : (numsOf s).length = 11 := rfl
 unfold bodyOf
 simp only [List.length_append, List.length_cons, List.length_nil]
 omega
/-- keys that rise are no more than the keys that there are -/
theorem keys_nodup {l : List Item} (h : rising l = true) : (keysOf l).Nodup := ((rising_pair l).1 h).imp (fun h e => by rw [e, less_irrefl] at h; cases h)
theorem played_len {m c : Nat} {p f : Int} {s : Store} (h : Played m c p f s) : s.items.length ≤ 8 := by
 have h1 : (keysOf s.items).length ≤ (K8.map bl).length := List.Nodup.length_le_of_subset (keys_nodup h.ok.rise) (fun y hy => h.keys y hy)
 rw [show (keysOf s.items).length = s.items.length by simp [keysOf]] at h1
 exact h1
/-- all that the walk needs of a store that was played -/
theorem back_all {m c : Nat} {p f : Int} {s : Store} (h : Played m c p f s) : ∃ b : Str, s.bytes = (b, 0) ∧ 7 ≤ b.length ∧ b.length ≤ 150000 ∧ decode b = (s, 0) ∧
  (∃ e, e ≠ 0 ∧ decode (b ++ [0]) = (Store.zero, e)) ∧ ∀ (j : Nat) (x : UInt8) (hj : j < b.length), x ≠ b[j] → ∃ e, e ≠ 0 ∧ decode (b.set j x) = (Store.zero, e) := by
 have hl := body_len h.ok (by have := played_len h; omega)
 have h3 : 3 ≤ (bodyOf s).length := by rw [body_tail]; simp
 have hz : ∀ b : Str, (decode b).2 ≠ 0 → ∃ e, e ≠ 0 ∧ decode b = (Store.zero, e) := fun b hb => ⟨_, hb, by
  have := decode_zero (b := b) (t := (decode b).1) (e := (decode b).2) rfl hb
  rw [← this]⟩
 have hlen : (bodyOf s ++ sealOf (bodyOf s)).length = (bodyOf s).length + 4 := by rw [List.length_append, seal_len]
 refine ⟨bodyOf s ++ sealOf (bodyOf s), ?_, by omega, by omega, decode_bytes h.ok (by omega), hz _ (decode_more h.ok (by omega) 0), fun j x hj hx => hz _ (decode_spoilt x (by omega) hj hx)⟩
 unfold Store.bytes
 rw [if_neg (by rw [(ok_iff s).2 h.ok]; simp)]
end Go.Proofs.YtbeegfkfpkfccaaGreatDoor.D

