/-
  Plain law: a store as bytes: numbers, texts, items, a sum.
-/
import Derived.Test.YtbipegbgfdpaeaaDoorPLast
namespace Go.Proofs.YtbipegbgfdpaeaaDoor.D
/-- a number: seven bits a byte, the lowest ones first -/
def sev (n : Nat) : Str := if n < 128 then [UInt8.ofNat n] else UInt8.ofNat (128 + n % 128) :: sev (n / 128)
termination_by n
decreasing_by omega
theorem sev_small {n : Nat} (h : n < 128) : sev n = [UInt8.ofNat n] := by rw [sev, if_pos h]
theorem sev_big {n : Nat} (h : ¬ n < 128) : sev n = UInt8.ofNat (128 + n % 128) :: sev (n / 128) := by rw [sev, if_neg h]
theorem sev_pos (n : Nat) : 0 < (sev n).length := by
  by_cases h : n < 128
  · rw [sev_small h]; simp
  · rw [sev_big h]; simp
theorem sev_len : ∀ (k n : Nat), n < 128 ^ (k + 1) → (sev n).length ≤ k + 1
  | 0, n, h => by rw [sev_small (by simpa using h)]; simp
  | k + 1, n, h => by
    by_cases hn : n < 128
    · rw [sev_small hn]; simp
    · rw [sev_big hn]
      have := sev_len k (n / 128) (by rw [Nat.pow_succ] at h; omega)
      simp only [List.length_cons]; omega
theorem sev_le {n : Nat} (h : n ≤ 9223372036854775807) : (sev n).length ≤ 10 := sev_len 9 n (by omega)
def textOf (s : Str) : Str := sev s.length ++ s
def itemBytes (x : Item) : Str :=
  textOf (bl x.key) ++ sev x.flags.toNat ++ sev x.till.toNat ++ sev x.cas.toNat ++ sev x.used.toNat ++ (if x.far then sev 1 ++ sev x.place.page.toNat ++ sev x.place.off.toNat else sev 0 ++ textOf (bl x.value))
def numsOf (s : Store) : List Int := [s.clock, s.cas, s.uses, s.most, s.h0, s.h1, s.h2, s.h3, s.flash.most, s.flash.next, s.flash.pages.length]
def sevs (l : List Int) : Str := l.flatMap fun n => sev n.toNat
def pagesBytes (l : List Page) : Str := l.flatMap fun p => textOf p.bytes
def itemsBytes (l : List Item) : Str := l.flatMap itemBytes
def bodyOf (s : Store) : Str := [100, 99, 49] ++ sevs (numsOf s) ++ pagesBytes s.flash.pages ++ sev s.items.length ++ itemsBytes s.items
def adStep (p : Nat × Nat) (c : UInt8) : Nat × Nat := ((p.1 + c.toNat) % 65521, (p.2 + (p.1 + c.toNat) % 65521) % 65521)
def ad (l : Str) : Nat × Nat := l.foldl adStep (1, 0)
theorem ad_snoc (l : Str) (c : UInt8) : ad (l ++ [c]) = adStep (ad l) c := by simp [ad]
theorem adStep_lt (p : Nat × Nat) (c : UInt8) : (adStep p c).1 < 65521 ∧ (adStep p c).2 < 65521 := ⟨Nat.mod_lt _ (by decide), Nat.mod_lt _ (by decide)⟩
theorem ad_lt (l : Str) : (ad l).1 < 65521 ∧ (ad l).2 < 65521 := by
  suffices h : ∀ (l : Str) (p : Nat × Nat), p.1 < 65521 ∧ p.2 < 65521 → (l.foldl adStep p).1 < 65521 ∧ (l.foldl adStep p).2 < 65521 from h l (1, 0) (by decide)
  intro l
  induction l with
  | nil => intro p hp; exact hp
  | cons c l ih => intro p _; exact ih _ (adStep_lt p c)
def sealOf (l : Str) : Str := [UInt8.ofNat ((ad l).2 / 256), UInt8.ofNat ((ad l).2 % 256), UInt8.ofNat ((ad l).1 / 256), UInt8.ofNat ((ad l).1 % 256)]
def Store.bytes (s : Store) : Str × Int := if s.ok = false then ([], 8) else (bodyOf s ++ sealOf (bodyOf s), 0)
theorem u8_back {n : Nat} (h : n < 256) : (UInt8.ofNat n).toNat = n := by simp; omega
theorem sevs_snoc (l : List Int) (k : Nat) (hk : k < l.length) : sevs (l.take (k + 1)) = sevs (l.take k) ++ sev l[k].toNat := by
  unfold sevs; rw [List.take_succ_eq_append_getElem hk, List.flatMap_append]; simp
theorem pagesBytes_snoc (l : List Page) (k : Nat) (hk : k < l.length) : pagesBytes (l.take (k + 1)) = pagesBytes (l.take k) ++ textOf l[k].bytes := by
  unfold pagesBytes; rw [List.take_succ_eq_append_getElem hk, List.flatMap_append]; simp
theorem itemsBytes_snoc (l : List Item) (k : Nat) (hk : k < l.length) : itemsBytes (l.take (k + 1)) = itemsBytes (l.take k) ++ itemBytes l[k] := by
  unfold itemsBytes; rw [List.take_succ_eq_append_getElem hk, List.flatMap_append]; simp
end Go.Proofs.YtbipegbgfdpaeaaDoor.D
