/-
 Plain law: bytes that read as a store are its own bytes.
-/
import Derived.Test.YtbeegfkfpkfccaaGreatDoorYPDecode
namespace Go.Proofs.YtbeegfkfpkfccaaGreatDoor.D
theorem u8_top {c : UInt8} (h : ¬ c.toNat < 128) : UInt8.ofNat (128 + c.toNat % 128) = c := by
 have := c.toNat_lt
 rw [show 128 + c.toNat % 128 = c.toNat by omega]; simp
theorem rdN_back : ∀ (l : Str) (k n m : Nat) (r : Str), rdN k n l = (m, r, 0) → ∃ p, m = n + p * 128 ^ k ∧ l = sev p ++ r ∧ (0 < k → 0 < p)
 | [], k, n, m, r, h => by rw [rdN_nil] at h; simp at h
 | c :: l, k, n, m, r, h => by
  by_cases hf : k = 6 ∨ (0 < k ∧ c.toNat = 0)
  ·rw [rdN_form hf] at h; simp at h
  ·by_cases hc : c.toNat < 128
   ·rw [rdN_last hf hc] at h
    simp only [Prod.mk.injEq, and_true] at h
    obtain ⟨rfl, rfl⟩ := h
    refine ⟨c.toNat, by rw [Nat.mod_eq_of_lt hc], ?_, fun hk => by omega⟩
    rw [sev_small hc]; simp
   ·rw [rdN_more hf hc] at h
    obtain ⟨p, hm, hl, hp⟩ := rdN_back l (k + 1) _ m r h
    have hp := hp (by omega)
    refine ⟨c.toNat % 128 + 128 * p, ?_, ?_, fun _ => by omega⟩
    ·rw [hm, Nat.pow_succ, Nat.add_mul, Nat.add_assoc]
     congr 2
     rw [Nat.mul_comm (128 ^ k) 128, ← Nat.mul_assoc, Nat.mul_comm p 128]
    ·rw [sev_big (by omega)]
     rw [show (c.toNat % 128 + 128 * p) % 128 = c.toNat % 128 by omega, show (c.toNat % 128 + 128 * p) / 128 = p by omega, u8_top hc, hl]
     rfl
theorem num_back {s s1 : Rd} {n : Int} (h : s.num = (n, s1)) (he : s1.err = 0) : s.err = 0 ∧ 0 ≤ n ∧ s.rest = sev n.toNat ++ s1.rest := by
 by_cases h0 : s.err = 0
 ·rw [num_ok s h0] at h
  obtain ⟨rfl, rfl⟩ := Prod.mk.inj h
  simp only at he
  obtain ⟨p, hm, hl, _⟩ := rdN_back s.rest 0 0 (rdN 0 0 s.rest).1 (rdN 0 0 s.rest).2.1 (by rw [← he])
  refine ⟨h0, by omega, ?_⟩
  rw [Int.toNat_natCast]
  have : (rdN 0 0 s.rest).1 = p := by rw [hm]; simp
  rw [this]; exact hl
 ·rw [num_err s h0] at h
  obtain ⟨_, rfl⟩ := Prod.mk.inj h
  exact absurd he h0
theorem many_back {s s1 : Rd} {m n : Int} (h : s.many m = (n, s1)) (he : s1.err = 0) : s.err = 0 ∧ 0 ≤ n ∧ s.rest = sev n.toNat ++ s1.rest := by
 unfold Rd.many at h
 split at h
 ·obtain ⟨_, rfl⟩ := Prod.mk.inj h
  unfold Rd.wrong at he
  split at he
  ·simp at he
  ·rename_i h2; exact absurd he h2
 ·exact num_back h he
theorem text_back {s s1 : Rd} {m : Int} {v : Str} (h : s.text m = (v, s1)) (he : s1.err = 0) : s.err = 0 ∧ s.rest = textOf v ++ s1.rest := by
 unfold Rd.text at h
 split at h
 ·rename_i h2
  obtain ⟨_, rfl⟩ := Prod.mk.inj h
  exact absurd he h2
 ·rename_i h2
  have h2 : (s.many m).2.err = 0 := Decidable.of_not_not h2
  split at h
  ·obtain ⟨_, rfl⟩ := Prod.mk.inj h
   simp at he
  ·rename_i h3
   obtain ⟨rfl, rfl⟩ := Prod.mk.inj h
   obtain ⟨a1, a2, a3⟩ := many_back (show s.many m = ((s.many m).1, (s.many m).2) from rfl) h2
   refine ⟨a1, ?_⟩
   have hl : ((s.many m).2.rest.take (s.many m).1.toNat).length = (s.many m).1.toNat := by rw [List.length_take]; omega
   unfold textOf
   rw [hl, List.append_assoc, List.take_append_drop]
   exact a3
theorem bl_mkB (l : Str) : bl (mkB l) = l := by simp [bl, mkB]
theorem item_back {s s1 : Rd} {x : Item} (h : s.item = (x, s1)) (he : s1.err = 0) : s.err = 0 ∧ s.rest = itemBytes x ++ s1.rest := by
 obtain ⟨⟨k, s0⟩, hk⟩ : ∃ p, p = s.text 20 := ⟨_, rfl⟩
 obtain ⟨⟨fl, s2⟩, hfl⟩ : ∃ p, p = s0.num := ⟨_, rfl⟩
 obtain ⟨⟨ti, s3⟩, hti⟩ : ∃ p, p = s2.num := ⟨_, rfl⟩
 obtain ⟨⟨ca, s4⟩, hca⟩ : ∃ p, p = s3.num := ⟨_, rfl⟩
 obtain ⟨⟨us, s5⟩, hus⟩ : ∃ p, p = s4.num := ⟨_, rfl⟩
 obtain ⟨⟨t, s6⟩, ht⟩ : ∃ p, p = s5.num := ⟨_, rfl⟩
 have hx : s.item = s6.tail k fl ti ca us t := by
  unfold Rd.item
  rw [← hk]; simp only
  rw [← hfl]; simp only
  rw [← hti]; simp only
  rw [← hca]; simp only
  rw [← hus]; simp only
  rw [← ht]
 rw [hx] at h
 have key : s6.err = 0 ∧ ∃ q, itemBytes x = textOf k ++ sev fl.toNat ++ sev ti.toNat ++ sev ca.toNat ++ sev us.toNat ++ (sev t.toNat ++ q) ∧ s6.rest = q ++ s1.rest := by
  unfold Rd.tail at h
  split at h
  ·rename_i h0
   obtain ⟨rfl, rfl⟩ := Prod.mk.inj h
   obtain ⟨b1, b2⟩ := text_back (show s6.text 200 = ((s6.text 200).1, (s6.text 200).2) from rfl) he
   refine ⟨b1, textOf (s6.text 200).1, ?_, b2⟩
   subst h0
   simp [itemBytes, bl_mkB]
  ·split at h
   ·rename_i h0 h1
    obtain ⟨rfl, rfl⟩ := Prod.mk.inj h
    obtain ⟨c1, _, c3⟩ := num_back (show s6.num.2.num = (s6.num.2.num.1, s6.num.2.num.2) from rfl) he
    obtain ⟨d1, _, d3⟩ := num_back (show s6.num = (s6.num.1, s6.num.2) from rfl) c1
    refine ⟨d1, sev s6.num.1.toNat ++ sev s6.num.2.num.1.toNat, ?_, ?_⟩
    ·subst h1
     simp [itemBytes, bl_mkB]
    ·rw [d3, c3, List.append_assoc]
   ·obtain ⟨_, rfl⟩ := Prod.mk.inj h
    unfold Rd.wrong at he
    split at he
    ·simp at he
    ·rename_i h2; exact absurd he h2
 obtain ⟨e6, q, hq, hr⟩ := key
 obtain ⟨e5, _, r5⟩ := num_back ht.symm e6
 obtain ⟨e4, _, r4⟩ := num_back hus.symm e5
 obtain ⟨e3, _, r3⟩ := num_back hca.symm e4
 obtain ⟨e2, _, r2⟩ := num_back hti.symm e3
 obtain ⟨e0, _, r0⟩ := num_back hfl.symm e2
 obtain ⟨e, r⟩ := text_back hk.symm e0
 refine ⟨e, ?_⟩
 rw [hq, r, r0, r2, r3, r4, r5, hr]
 simp only [List.append_assoc]
theorem items_back : ∀ (m n i : Nat) (s : Rd), n - i ≤ m → (Rd.items n i s).2.err = 0 → s.err = 0 ∧ (Rd.items n i s).1.length = n - i ∧ s.rest = itemsBytes (Rd.items n i s).1 ++ (Rd.items n i s).2.rest
 | 0, n, i, s, h, he => by
  rw [items_stop (by omega)] at he ⊢
  exact ⟨he, by simp; omega, rfl⟩
 | m + 1, n, i, s, h, he => by
  by_cases hc : i < n ∧ s.err = 0
  ·rw [items_go hc.1 hc.2] at he ⊢
   obtain ⟨a1, a2, a3⟩ := items_back m n (i + 1) s.item.2 (by omega) he
   obtain ⟨_, b2⟩ := item_back (show s.item = (s.item.1, s.item.2) from rfl) a1
   refine ⟨hc.2, by simp only [List.length_cons]; omega, ?_⟩
   rw [b2]
   conv => lhs; rw [a3]
   simp [itemsBytes]
  ·rw [items_stop hc] at he ⊢
   simp only at he
   exact ⟨he, by simp; omega, rfl⟩
theorem pages_back (next : Int) : ∀ (m n i : Nat) (s : Rd), n - i ≤ m → (Rd.pages next n i s).2.err = 0 → s.err = 0 ∧ (Rd.pages next n i s).1.length = n - i ∧ s.rest = pagesBytes (Rd.pages next n i s).1 ++ (Rd.pages next n i s).2.rest
 | 0, n, i, s, h, he => by
  rw [pages_stop (by omega)] at he ⊢
  exact ⟨he, by simp; omega, rfl⟩
 | m + 1, n, i, s, h, he => by
  by_cases hc : i < n ∧ s.err = 0
  ·rw [pages_go hc.1 hc.2] at he ⊢
   obtain ⟨a1, a2, a3⟩ := pages_back next m n (i + 1) (s.text 256).2 (by omega) he
   obtain ⟨_, b2⟩ := text_back (show s.text 256 = ((s.text 256).1, (s.text 256).2) from rfl) a1
   refine ⟨hc.2, by simp only [List.length_cons]; omega, ?_⟩
   rw [b2]
   conv => lhs; rw [a3]
   simp [pagesBytes]
  ·rw [pages_stop hc] at he ⊢
   simp only at he
   exact ⟨he, by simp; omega, rfl⟩
theorem store_back {s : Rd} (he : s.store.2.err = 0) : s.rest = sevs (numsOf s.store.1) ++ pagesBytes s.store.1.flash.pages ++ sev s.store.1.items.length ++ itemsBytes s.store.1.items ++ s.store.2.rest := by
 obtain ⟨⟨a, s1⟩, h1⟩ : ∃ p, p = s.num := ⟨_, rfl⟩
 obtain ⟨⟨b, s2⟩, h2⟩ : ∃ p, p = s1.num := ⟨_, rfl⟩
 obtain ⟨⟨c, s3⟩, h3⟩ : ∃ p, p = s2.num := ⟨_, rfl⟩
 obtain ⟨⟨d, s4⟩, h4⟩ : ∃ p, p = s3.num := ⟨_, rfl⟩
 obtain ⟨⟨e, s5⟩, h5⟩ : ∃ p, p = s4.num := ⟨_, rfl⟩
 obtain ⟨⟨f, s6⟩, h6⟩ : ∃ p, p = s5.num := ⟨_, rfl⟩
 obtain ⟨⟨g, s7⟩, h7⟩ : ∃ p, p = s6.num := ⟨_, rfl⟩
 obtain ⟨⟨h, s8⟩, h8⟩ : ∃ p, p = s7.num := ⟨_, rfl⟩
 obtain ⟨⟨i, s9⟩, h9⟩ : ∃ p, p = s8.num := ⟨_, rfl⟩
 obtain ⟨⟨j, s10⟩, h10⟩ : ∃ p, p = s9.num := ⟨_, rfl⟩
 have hh := head_of h1 h2 h3 h4 h5 h6 h7 h8 h9 h10
 obtain ⟨⟨n, s11⟩, hn⟩ : ∃ p, p = s10.many 20 := ⟨_, rfl⟩
 obtain ⟨⟨P, sP⟩, hP⟩ : ∃ p, p = Rd.pages j n.toNat 0 s11 := ⟨_, rfl⟩
 have hpg : s.paged = (⟨a, b, c, d, e, f, g, h, [], ⟨i, j, P⟩⟩, sP) := by
  unfold Rd.paged Rd.withPages
  rw [hh]; simp only
  rw [← hn]; simp only
  rw [← hP]
 obtain ⟨⟨m, s12⟩, hm⟩ : ∃ p, p = sP.many 1000 := ⟨_, rfl⟩
 obtain ⟨⟨X, sX⟩, hX⟩ : ∃ p, p = Rd.items m.toNat 0 s12 := ⟨_, rfl⟩
 have hst : s.store = (⟨a, b, c, d, e, f, g, h, X, ⟨i, j, P⟩⟩, sX) := by
  unfold Rd.store Rd.withItems
  rw [hpg]; simp only
  rw [← hm]; simp only
  rw [← hX]
 rw [hst] at he ⊢
 simp only at he ⊢
 obtain ⟨eX, lX, rX⟩ := items_back m.toNat m.toNat 0 s12 (by omega) (by rw [← hX]; exact he)
 rw [← hX] at lX rX
 simp only at lX rX
 obtain ⟨eP, _, rm⟩ := many_back hm.symm eX
 obtain ⟨e11, lP, rP⟩ := pages_back j n.toNat n.toNat 0 s11 (by omega) (by rw [← hP]; exact eP)
 rw [← hP] at lP rP
 simp only at lP rP
 obtain ⟨e10, _, rn⟩ := many_back hn.symm e11
 obtain ⟨e9, _, r10⟩ := num_back h10.symm e10
 obtain ⟨e8, _, r9⟩ := num_back h9.symm e9
 obtain ⟨e7, _, r8⟩ := num_back h8.symm e8
 obtain ⟨e6, _, r7⟩ := num_back h7.symm e7
 obtain ⟨e5, _, r6⟩ := num_back h6.symm e6
 obtain ⟨e4, _, r5⟩ := num_back h5.symm e5
 obtain ⟨e3, _, r4⟩ := num_back h4.symm e4
 obtain ⟨e2, _, r3⟩ := num_back h3.symm e3
 obtain ⟨e1, _, r2⟩ := num_back h2.symm e2
 obtain ⟨e0, _, r1⟩ := num_back h1.symm e1
 have q1 : n.toNat = P.length := by omega
 have q2 : m.toNat = X.length := by omega
 rw [r1, r2, r3, r4, r5, r6, r7, r8, r9, r10, rn, rP, rm, rX, q1, q2]
 simp [sevs, numsOf]
theorem decode_once {b : Str} {t : Store} (h : decode b = (t, 0)) : t.bytes = (b, 0) := by
 unfold decode at h
 split at h
 ·simp at h
 split at h
 ·simp at h
 split at h
 ·simp at h
 split at h
 ·simp at h
 rename_i h1 h2 h3 h4
 have h3 : b.take 3 = [100, 99, 49] := Decidable.of_not_not h3
 have h4 : sealOf (b.take (b.length - 4)) = b.drop (b.length - 4) := Decidable.of_not_not h4
 unfold answer at h
 split at h
 ·rename_i h5
  obtain ⟨_, h6⟩ := Prod.mk.inj h
  exact absurd h6 h5
 split at h
 ·simp at h
 rename_i h5 h6
 obtain ⟨rfl, _⟩ := Prod.mk.inj h
 have h5 : (Rd.store ⟨bodyIn b, 0⟩).2.fin.err = 0 := Decidable.of_not_not h5
 have he : (Rd.store ⟨bodyIn b, 0⟩).2.err = 0 := by
  unfold Rd.fin at h5
  split at h5
  ·simp at h5
  ·exact h5
 have hr : (Rd.store ⟨bodyIn b, 0⟩).2.rest = [] := by
  unfold Rd.fin at h5
  split at h5
  ·simp at h5
  ·rename_i h7
   apply List.eq_nil_of_length_eq_zero
   have : ¬ 0 < (Rd.store ⟨bodyIn b, 0⟩).2.rest.length := fun h8 => h7 ⟨he, h8⟩
   omega
 have hb := store_back he
 rw [hr, List.append_nil] at hb
 have hbody : bodyOf (Rd.store ⟨bodyIn b, 0⟩).1 = b.take (b.length - 4) := by
  have e1 : b.take (b.length - 4) = [100, 99, 49] ++ bodyIn b := by
   have := (List.take_append_drop 3 (b.take (b.length - 4))).symm
   rw [List.take_take, Nat.min_eq_left (by omega), h3] at this
   exact this
  rw [e1]
  have hb : bodyIn b = _ := hb
  refine Eq.trans ?_ (congrArg (fun z => [100, 99, 49] ++ z) hb.symm)
  unfold bodyOf
  simp only [List.append_assoc]
 unfold Store.bytes
 rw [if_neg h6, hbody, h4, List.take_append_drop]
theorem answer_zero {p : Store × Rd} {t : Store} {e : Int} (h : answer p = (t, e)) (he : e ≠ 0) : t = Store.zero := by
 unfold answer at h
 split at h
 ·exact ((Prod.mk.inj h).1).symm
 split at h
 ·exact ((Prod.mk.inj h).1).symm
 ·exact absurd (Prod.mk.inj h).2.symm he
theorem decode_zero {b : Str} {t : Store} {e : Int} (h : decode b = (t, e)) (he : e ≠ 0) : t = Store.zero := by
 unfold decode at h
 split at h
 ·exact ((Prod.mk.inj h).1).symm
 split at h
 ·exact ((Prod.mk.inj h).1).symm
 split at h
 ·exact ((Prod.mk.inj h).1).symm
 split at h
 ·exact ((Prod.mk.inj h).1).symm
 exact answer_zero h he
end Go.Proofs.YtbeegfkfpkfccaaGreatDoor.D

