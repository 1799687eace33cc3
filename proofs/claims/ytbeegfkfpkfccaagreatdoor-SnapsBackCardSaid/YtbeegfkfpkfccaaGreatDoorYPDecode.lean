/-
 Plain law: bytes as a store: all of it; how great its parts are.
-/
import Derived.Test.YtbeegfkfpkfccaaGreatDoorYPDec
import Derived.Test.YtbeegfkfpkfccaaGreatDoorYOwn
namespace Go.Proofs.YtbeegfkfpkfccaaGreatDoor.D
def Rd.head (s : Rd) : Store × Rd :=
 (⟨s.num.1, s.num.2.num.1, s.num.2.num.2.num.1, s.num.2.num.2.num.2.num.1, s.num.2.num.2.num.2.num.2.num.1, s.num.2.num.2.num.2.num.2.num.2.num.1, s.num.2.num.2.num.2.num.2.num.2.num.2.num.1, s.num.2.num.2.num.2.num.2.num.2.num.2.num.2.num.1, [],
  ⟨s.num.2.num.2.num.2.num.2.num.2.num.2.num.2.num.2.num.1, s.num.2.num.2.num.2.num.2.num.2.num.2.num.2.num.2.num.2.num.1, []⟩⟩, s.num.2.num.2.num.2.num.2.num.2.num.2.num.2.num.2.num.2.num.2)
theorem head_of {s s1 s2 s3 s4 s5 s6 s7 s8 s9 s10 : Rd} {a b c d e f g h i j : Int} (h1 : (a, s1) = s.num) (h2 : (b, s2) = s1.num) (h3 : (c, s3) = s2.num) (h4 : (d, s4) = s3.num) (h5 : (e, s5) = s4.num) (h6 : (f, s6) = s5.num)
  (h7 : (g, s7) = s6.num) (h8 : (h, s8) = s7.num) (h9 : (i, s9) = s8.num) (h10 : (j, s10) = s9.num) : s.head = (⟨a, b, c, d, e, f, g, h, [], ⟨i, j, []⟩⟩, s10) := by
 unfold Rd.head
 rw [← h1]; simp only
 rw [← h2]; simp only
 rw [← h3]; simp only
 rw [← h4]; simp only
 rw [← h5]; simp only
 rw [← h6]; simp only
 rw [← h7]; simp only
 rw [← h8]; simp only
 rw [← h9]; simp only
 rw [← h10]
def Rd.withPages (t : Store) (n : Int) (s : Rd) : Store × Rd := ({ t with flash := ⟨t.flash.most, t.flash.next, (Rd.pages t.flash.next n.toNat 0 s).1⟩ }, (Rd.pages t.flash.next n.toNat 0 s).2)
def Rd.withItems (t : Store) (n : Int) (s : Rd) : Store × Rd := ({ t with items := (Rd.items n.toNat 0 s).1 }, (Rd.items n.toNat 0 s).2)
def Rd.paged (s : Rd) : Store × Rd := Rd.withPages s.head.1 (s.head.2.many 20).1 (s.head.2.many 20).2
def Rd.store (s : Rd) : Store × Rd := Rd.withItems s.paged.1 (s.paged.2.many 1000).1 (s.paged.2.many 1000).2
def Rd.fin (s : Rd) : Rd := if s.err = 0 ∧ 0 < s.rest.length then ⟨s.rest, 4⟩ else s
def answer (p : Store × Rd) : Store × Int := if p.2.fin.err ≠ 0 then (Store.zero, p.2.fin.err) else if p.1.ok = false then (Store.zero, 8) else (p.1, 0)
def bodyIn (b : Str) : Str := (b.take (b.length - 4)).drop 3
def decode (b : Str) : Store × Int :=
 if 200000 < b.length then (Store.zero, 1) else if b.length < 7 then (Store.zero, 5) else if b.take 3 ≠ [100, 99, 49] then (Store.zero, 4)
 else if sealOf (b.take (b.length - 4)) ≠ b.drop (b.length - 4) then (Store.zero, 9) else answer (Rd.store ⟨bodyIn b, 0⟩)
theorem decode_big {b : Str} (h : 200000 < b.length) : decode b = (Store.zero, 1) := by unfold decode; rw [if_pos h]
theorem decode_short {b : Str} (h : ¬ 200000 < b.length) (h2 : b.length < 7) : decode b = (Store.zero, 5) := by unfold decode; rw [if_neg h, if_pos h2]
theorem decode_form {b : Str} (h : ¬ 200000 < b.length) (h2 : ¬ b.length < 7) (h3 : b.take 3 ≠ [100, 99, 49]) : decode b = (Store.zero, 4) := by unfold decode; rw [if_neg h, if_neg h2, if_pos h3]
theorem decode_seal {b : Str} (h : ¬ 200000 < b.length) (h2 : ¬ b.length < 7) (h3 : b.take 3 = [100, 99, 49]) (h4 : sealOf (b.take (b.length - 4)) ≠ b.drop (b.length - 4)) : decode b = (Store.zero, 9) := by
 unfold decode; rw [if_neg h, if_neg h2, if_neg (by simp [h3]), if_pos h4]
theorem decode_body {b : Str} (h : ¬ 200000 < b.length) (h2 : ¬ b.length < 7) (h3 : b.take 3 = [100, 99, 49]) (h4 : sealOf (b.take (b.length - 4)) = b.drop (b.length - 4)) : decode b = answer (Rd.store ⟨bodyIn b, 0⟩) := by
 unfold decode; rw [if_neg h, if_neg h2, if_neg (by simp [h3]), if_neg (by simp [h4])]
theorem many_to (s : Rd) (most : Int) (hm : 0 ≤ most) : 0 ≤ (s.many most).1 ∧ (s.many most).1 ≤ most := by
 have := num_lt s
 unfold Rd.many
 split
 ·exact ⟨Int.le_refl _, hm⟩
 ·omega
theorem text_le (s : Rd) (most : Int) (hm : 0 ≤ most) : ((s.text most).1.length : Int) ≤ most := by
 have := many_to s most hm
 unfold Rd.text
 split
 ·exact hm
 ·split
  ·exact hm
  ·simp only [List.length_take]; omega
theorem pages_len (next : Int) : ∀ (m n i : Nat) (s : Rd), n - i ≤ m → (Rd.pages next n i s).1.length ≤ n - i
 | 0, n, i, s, h => by rw [pages_stop (by omega)]; simp
 | m + 1, n, i, s, h => by
  by_cases hc : i < n ∧ s.err = 0
  ·rw [pages_go hc.1 hc.2]
   have := pages_len next m n (i + 1) (s.text 256).2 (by omega)
   simp only [List.length_cons]; omega
  ·rw [pages_stop hc]; simp
theorem items_len : ∀ (m n i : Nat) (s : Rd), n - i ≤ m → (Rd.items n i s).1.length ≤ n - i
 | 0, n, i, s, h => by rw [items_stop (by omega)]; simp
 | m + 1, n, i, s, h => by
  by_cases hc : i < n ∧ s.err = 0
  ·rw [items_go hc.1 hc.2]
   have := items_len m n (i + 1) s.item.2 (by omega)
   simp only [List.length_cons]; omega
  ·rw [items_stop hc]; simp
theorem i64_small {n : Int} (h : 0 ≤ n ∧ n < 4398046511104) : I64 n := ⟨by omega, by omega⟩
theorem mkB_size (l : Str) : (mkB l).size = l.length := by simp [mkB, ByteArray.size]
theorem mkB_le {l : Str} {most : Int} (h : (l.length : Int) ≤ most) (hm : most ≤ 1000) : (mkB l).size ≤ reachBytes := by
 rw [mkB_size]; unfold reachBytes; omega
theorem tail_b (s : Rd) (key : Str) (fl ti ca us t : Int) (hk : (key.length : Int) ≤ 20) (h1 : 0 ≤ fl ∧ fl < 4398046511104) (h2 : 0 ≤ ti ∧ ti < 4398046511104) (h3 : 0 ≤ ca ∧ ca < 4398046511104) (h4 : 0 ≤ us ∧ us < 4398046511104) : ItemB (s.tail key fl ti ca us t).1 := by
 have hz : I64 0 := ⟨by omega, by omega⟩
 have he : (mkB []).size ≤ reachBytes := by rw [mkB_size]; unfold reachBytes; simp
 unfold Rd.tail
 split
 ·exact ⟨mkB_le hk (by omega), mkB_le (text_le s 200 (by omega)) (by omega), i64_small h1, i64_small h2, i64_small h3, i64_small h4, hz, hz⟩
 ·split
  ·exact ⟨mkB_le hk (by omega), he, i64_small h1, i64_small h2, i64_small h3, i64_small h4, i64_small (num_lt _), i64_small (num_lt _)⟩
  ·exact ⟨mkB_le hk (by omega), he, i64_small h1, i64_small h2, i64_small h3, i64_small h4, hz, hz⟩
theorem item_b (s : Rd) : ItemB s.item.1 := by
 unfold Rd.item
 exact tail_b _ _ _ _ _ _ _ (text_le s 20 (by omega)) (num_lt _) (num_lt _) (num_lt _) (num_lt _)
theorem items_b : ∀ (m n i : Nat) (s : Rd), n - i ≤ m → ∀ x ∈ (Rd.items n i s).1, ItemB x
 | 0, n, i, s, h => by rw [items_stop (by omega)]; intro x hx; simp at hx
 | m + 1, n, i, s, h => by
  by_cases hc : i < n ∧ s.err = 0
  ·rw [items_go hc.1 hc.2]
   have := items_b m n (i + 1) s.item.2 (by omega)
   intro x hx
   rcases List.mem_cons.1 hx with rfl | hx
   ·exact item_b s
   ·exact this x hx
  ·rw [items_stop hc]; intro x hx; simp at hx
theorem pages_b (next : Int) (hnx : 0 ≤ next ∧ next < 4398046511104) : ∀ (m n i : Nat) (s : Rd), n ≤ 20 → n - i ≤ m → ∀ x ∈ (Rd.pages next n i s).1, PageB x
 | 0, n, i, s, _, h => by rw [pages_stop (by omega)]; intro x hx; simp at hx
 | m + 1, n, i, s, hn, h => by
  by_cases hc : i < n ∧ s.err = 0
  ·rw [pages_go hc.1 hc.2]
   have := pages_b next hnx m n (i + 1) (s.text 256).2 hn (by omega)
   intro x hx
   rcases List.mem_cons.1 hx with rfl | hx
   ·have ht := text_le s 256 (by omega)
    exact ⟨⟨by show _ ≤ next - n + i; omega, by show next - n + i ≤ _; omega⟩, by show (s.text 256).1.length ≤ _; unfold reachBytes; omega⟩
   ·exact this x hx
  ·rw [pages_stop hc]; intro x hx; simp at hx
theorem head_next (s : Rd) : 0 ≤ s.head.1.flash.next ∧ s.head.1.flash.next < 4398046511104 := num_lt _
theorem store_b (s : Rd) : (∀ x ∈ s.store.1.items, ItemB x) ∧ (∀ p ∈ s.store.1.flash.pages, PageB p) ∧ s.store.1.items.length ≤ 1000 ∧ s.store.1.flash.pages.length ≤ 20 := by
 have hm := many_to s.head.2 20 (by omega)
 have hm2 := many_to s.paged.2 1000 (by omega)
 refine ⟨?_, ?_, ?_, ?_⟩
 ·exact items_b _ _ 0 _ (Nat.le_refl _)
 ·exact pages_b _ (head_next s) _ _ 0 _ (by omega) (Nat.le_refl _)
 ·have := items_len _ (s.paged.2.many 1000).1.toNat 0 (s.paged.2.many 1000).2 (Nat.le_refl _)
  show (Rd.items (s.paged.2.many 1000).1.toNat 0 (s.paged.2.many 1000).2).1.length ≤ _
  omega
 ·have := pages_len s.head.1.flash.next _ (s.head.2.many 20).1.toNat 0 (s.head.2.many 20).2 (Nat.le_refl _)
  show (Rd.pages s.head.1.flash.next (s.head.2.many 20).1.toNat 0 (s.head.2.many 20).2).1.length ≤ _
  omega
end Go.Proofs.YtbeegfkfpkfccaaGreatDoor.D

