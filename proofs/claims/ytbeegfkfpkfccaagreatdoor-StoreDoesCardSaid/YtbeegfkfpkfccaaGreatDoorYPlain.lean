/-
 Plain law: what flash is, in lists and integers. Nothing of the program stands here.
-/
import GoSem.Op.String
import Derived.Lib.ItoaNum
import Derived.Lib.ItoaLen
import Derived.Lib.ItoaMem
import Derived.Lib.AtoiAll
namespace Go.Proofs.YtbeegfkfpkfccaaGreatDoor.D
abbrev Str := List UInt8
def sum31 (n : Nat) (l : Str) : Nat := l.foldl (fun n c => (n * 31 + c.toNat) % 65521) n
def sumOf (l : Str) : Nat := sum31 7 l
theorem sum31_lt {n : Nat} (l : Str) (h : n < 65521) : sum31 n l < 65521 := by
 induction l generalizing n with
 | nil => exact h
 | cons c r ih => exact ih (Nat.mod_lt _ (by decide))
theorem sumOf_lt (l : Str) : sumOf l < 65521 := sum31_lt l (by decide)
theorem sum31_snoc (n : Nat) (l : Str) (c : UInt8) : sum31 n (l ++ [c]) = (sum31 n l * 31 + c.toNat) % 65521 := by
 simp [sum31]
theorem sumOf_snoc (l : Str) (c : UInt8) : sumOf (l ++ [c]) = (sumOf l * 31 + c.toNat) % 65521 := sum31_snoc 7 l c
def lenAt (b : Str) (k : Nat) : Nat := (b.getD k 0).toNat
def valAt (b : Str) (k : Nat) : Str := (b.drop (k + 3)).take (lenAt b k)
def recB (b : Str) (k : Nat) : Bool :=
 decide (k + 3 + lenAt b k ≤ b.length ∧ lenAt b k ≤ 200 ∧ sumOf (valAt b k) = (b.getD (k+1) 0).toNat * 256 + (b.getD (k+2) 0).toNat)
def allRec (b : Str) (k : Nat) : Bool :=
 if k < b.length then recB b k && allRec b (k + 3 + lenAt b k) else true
termination_by b.length - k
decreasing_by omega
def findRec (b : Str) (k : Nat) (q : Int) : Option Str :=
 if k < b.length then
  if (k : Int) = q then some (valAt b k) else findRec b (k + 3 + lenAt b k) q
 else none
termination_by b.length - k
decreasing_by omega
theorem allRec_step {b : Str} {k : Nat} (h : k < b.length) : allRec b k = (recB b k && allRec b (k + 3 + lenAt b k)) := by
 rw [allRec, if_pos h]
theorem allRec_end {b : Str} {k : Nat} (h : b.length ≤ k) : allRec b k = true := by
 rw [allRec, if_neg (by omega)]
theorem findRec_hit {b : Str} {k : Nat} {q : Int} (h : k < b.length) (e : (k : Int) = q) : findRec b k q = some (valAt b k) := by
 rw [findRec, if_pos h, if_pos e]
theorem findRec_miss {b : Str} {k : Nat} {q : Int} (h : k < b.length) (e : (k : Int) ≠ q) : findRec b k q = findRec b (k + 3 + lenAt b k) q := by
 rw [findRec, if_pos h, if_neg e]
theorem findRec_end {b : Str} {k : Nat} {q : Int} (h : b.length ≤ k) : findRec b k q = none := by
 rw [findRec, if_neg (by omega)]
theorem recB_le {b : Str} {k : Nat} (h : recB b k = true) : k + 3 + lenAt b k ≤ b.length ∧ lenAt b k ≤ 200 := by
 simp only [recB, decide_eq_true_eq] at h; exact ⟨h.1, h.2.1⟩
structure Page where
 number : Int
 bytes : Str
structure Flash where
 most : Int
 next : Int
 pages : List Page
def maxN : Int := 1099511627776
def pagesOK : List Page → Int → Bool
 | [], _ => true
 | p :: r, n => decide (p.number = n ∧ 1 ≤ n ∧ 1 ≤ p.bytes.length ∧ p.bytes.length ≤ 256) && allRec p.bytes 0 && pagesOK r (n + 1)
def Flash.ok (f : Flash) : Bool :=
 decide (0 ≤ f.most ∧ f.most ≤ 20 ∧ (f.pages.length : Int) ≤ f.most ∧ 1 ≤ f.next ∧ f.next ≤ maxN) && pagesOK f.pages (f.next - f.pages.length)
theorem pagesOK_cons {p : Page} {r : List Page} {n : Int} : pagesOK (p :: r) n = (decide (p.number = n ∧ 1 ≤ n ∧ 1 ≤ p.bytes.length ∧ p.bytes.length ≤ 256) && allRec p.bytes 0 && pagesOK r (n + 1)) := rfl
def recordOf (s : Str) : Str := [UInt8.ofNat s.length, UInt8.ofNat (sumOf s / 256), UInt8.ofNat (sumOf s % 256)] ++ s
structure Place where
 page : Int
 off : Int
 deriving DecidableEq
def Flash.zero : Flash := ⟨0, 0, []⟩
def Flash.append (f : Flash) (s : Str) : Flash × Place × Int × Int :=
 if f.ok = false then (Flash.zero, ⟨0, 0⟩, 0, 8)
 else if 200 < s.length then (Flash.zero, ⟨0, 0⟩, 0, 1)
 else if f.most = 0 ∨ f.next = maxN then (Flash.zero, ⟨0, 0⟩, 0, 7)
 else
  match f.pages.getLast? with
  | some p =>
   if p.bytes.length + 3 + s.length ≤ 256 then
    (⟨f.most, f.next, f.pages.dropLast ++ [⟨p.number, p.bytes ++ recordOf s⟩]⟩, ⟨p.number, p.bytes.length⟩, 0, 0)
   else if (f.pages.length : Int) = f.most then
    (⟨f.most, f.next + 1, f.pages.tail ++ [⟨f.next, recordOf s⟩]⟩, ⟨f.next, 0⟩, (f.pages.headD ⟨0, []⟩).number, 0)
   else (⟨f.most, f.next + 1, f.pages ++ [⟨f.next, recordOf s⟩]⟩, ⟨f.next, 0⟩, 0, 0)
  | none => (⟨f.most, f.next + 1, [⟨f.next, recordOf s⟩]⟩, ⟨f.next, 0⟩, 0, 0)
def Flash.pageOf (f : Flash) (n : Int) : Option Page := f.pages.find? (fun p => p.number == n)
def Flash.read (f : Flash) (q : Place) : Str × Int :=
 if f.ok = false then ([], 8)
 else match f.pageOf q.page with
  | none => ([], 6)
  | some p => match findRec p.bytes 0 q.off with
   | some s => (s, 0)
   | none => ([], 2)
def goodC (c : UInt8) : Bool := decide (33 ≤ c.toNat ∧ c.toNat ≤ 126)
def badC (c : UInt8) : Bool := decide (c.toNat ≤ 32) || decide (126 < c.toNat)
theorem badC_eq (c : UInt8) : badC c = !goodC c := by
 unfold badC goodC;rw [Bool.eq_iff_iff]; simp; omega
def keyL (l : Str) : Bool := decide (1 ≤ l.length ∧ l.length ≤ 20) && l.all goodC
def firstBad (l : Str) (k : Nat) : Int :=
 match l with
 | [] => -1
 | c :: r => if badC c then k else firstBad r (k + 1)
theorem firstBad_neg (l : Str) (k : Nat) : (0 ≤ firstBad l k) = (l.all goodC = false) := by
 induction l generalizing k with
 | nil => simp [firstBad]
 | cons c r ih =>
  simp only [firstBad, List.all_cons]
  by_cases h : badC c = true
  ·rw [if_pos h]; rw [badC_eq] at h; simp at h; simp [h]
  ·rw [if_neg h, ih]; rw [badC_eq] at h; simp at h; simp [h]
theorem firstBad_hit (l : Str) (k j : Nat) (hj : j < l.length) (h : (l.take j).all goodC = true) (hb : badC l[j] = true) : firstBad l k = (k + j : Nat) := by
 induction l generalizing k j with
 | nil => simp at hj
 | cons c r ih =>
  cases j with
  | zero => simp at hb; simp [firstBad, hb]
  | succ j =>
   simp only [List.take_succ_cons, List.all_cons, Bool.and_eq_true] at h;have hc : badC c = false := by rw [badC_eq, h.1]; rfl
   simp only [firstBad, hc];rw [if_neg (by simp), ih (k + 1) j (by simpa using hj) h.2 (by simpa using hb)]
   congr 1; omega
theorem firstBad_none (l : Str) (k : Nat) (h : l.all goodC = true) : firstBad l k = -1 := by
 induction l generalizing k with
 | nil => rfl
 | cons c r ih =>
  simp only [List.all_cons, Bool.and_eq_true] at h;have hc : badC c = false := by rw [badC_eq, h.1]; rfl
  simp only [firstBad, hc];rw [if_neg (by simp), ih _ h.2]
theorem all_take_succ (l : Str) (p : UInt8 → Bool) (k : Nat) (h : k < l.length) : (l.take (k + 1)).all p = ((l.take k).all p && p l[k]) := by
 rw [List.take_succ_eq_append_getElem h, List.all_append]; simp only [List.all_cons, List.all_nil, Bool.and_true]
def bl (s : ByteArray) : Str := s.data.toList
abbrev bytesLess : Str → Str → Bool := Op.bytesLess
structure Item where
 key : ByteArray
 flags : Int
 till : Int
 cas : Int
 used : Int
 value : ByteArray
 far : Bool
 place : Place
structure Store where
 clock : Int
 cas : Int
 uses : Int
 most : Int
 h0 : Int
 h1 : Int
 h2 : Int
 h3 : Int
 items : List Item
 flash : Flash
def Store.zero : Store := ⟨0, 0, 0, 0, 0, 0, 0, 0, [], Flash.zero⟩
def keyOK (s : ByteArray) : Bool := keyL (bl s)
def cnt (n : Int) : Bool := decide (0 ≤ n ∧ n ≤ maxN)
def classOf (k v : Int) : Int :=
 if 1 ≤ k ∧ k ≤ 20 ∧ 0 ≤ v ∧ v ≤ 200 then (if 8 + k + v ≤ 32 then 0 else if 8 + k + v ≤ 64 then 1 else if 8 + k + v ≤ 128 then 2 else 3) else -1
def Item.cls (x : Item) : Int := classOf x.key.size x.value.size
def itemOK (s : Store) (x : Item) : Bool :=
 keyOK x.key && decide (0 ≤ x.flags ∧ x.flags ≤ 65535) && cnt x.till && decide (1 ≤ x.cas ∧ x.cas ≤ s.cas) && decide (1 ≤ x.used ∧ x.used ≤ s.uses) && decide (x.value.size ≤ 200) &&
 (if x.far then decide ((s.flash.read x.place).2 = 0) && decide (x.value.size = 0) && decide (24 ≤ (s.flash.read x.place).1.length) else decide (x.place = ⟨0, 0⟩))
def rising : List Item → Bool
 | a :: b :: r => bytesLess (bl a.key) (bl b.key) && rising (b :: r)
 | _ => true
def per (c : Int) : Int := if c = 0 then 8 else if c = 1 then 4 else if c = 2 then 2 else 1
def Store.held (s : Store) (c : Int) : Int := if c = 0 then s.h0 else if c = 1 then s.h1 else if c = 2 then s.h2 else s.h3
def countIn (l : List Item) (c : Int) : Int := (l.filter (fun x => !x.far && x.cls == c)).length
def heldOK (s : Store) (n : Int) : Bool := decide (0 ≤ n ∧ n ≤ s.most)
def Store.ok (s : Store) : Bool :=
 cnt s.clock && cnt s.cas && cnt s.uses && decide (0 ≤ s.most ∧ s.most ≤ 40) && decide (s.items.length ≤ 1000) && s.flash.ok &&
 heldOK s s.h0 && heldOK s s.h1 && heldOK s s.h2 && heldOK s s.h3 && s.items.all (itemOK s) && rising s.items &&
 decide (countIn s.items 0 ≤ s.h0 * 8) && decide (countIn s.items 1 ≤ s.h1 * 4) && decide (countIn s.items 2 ≤ s.h2 * 2) && decide (countIn s.items 3 ≤ s.h3) &&
 decide (s.h0 + s.h1 + s.h2 + s.h3 ≤ s.most)
def findKey (l : List Item) (k : Str) : Nat := (l.takeWhile (fun x => bytesLess (bl x.key) k)).length
def hasKey (l : List Item) (k : Str) : Bool := match l[findKey l k]? with | some x => bl x.key == k | none => false
def live (s : Store) (k : Str) : Store × Option Nat :=
 let i := findKey s.items k
 match s.items[i]? with
 | some x => if bl x.key == k then (if x.till ≠ 0 ∧ x.till ≤ s.clock then ({ s with items := s.items.eraseIdx i }, none) else (s, some i)) else (s, none)
 | none => (s, none)
def valueOf (s : Store) (x : Item) : ByteArray := if x.far then ⟨(s.flash.read x.place).1.toArray⟩ else x.value
def asked (s : Store) (i : Nat) : Store := { s with uses := s.uses + 1, items := s.items.modify i (fun x => { x with used := s.uses + 1 }) }
def away (s : Store) (i : Nat) : Store :=
 match s.items[i]? with
 | none => s
 | some x =>
  let r := s.flash.append (bl x.value)
  if 24 ≤ x.value.size ∧ r.2.2.2 = 0 then
   let l := s.items.modify i (fun x => { x with value := ByteArray.empty, far := true, place := r.2.1 })
   { s with flash := r.1, items := if 0 < r.2.2.1 then l.filter (fun y => !(y.far && y.place.page == r.2.2.1)) else l }
  else { s with items := s.items.eraseIdx i }
def addHeld (s : Store) (c : Int) : Store :=
 if c = 0 then { s with h0 := s.h0 + 1 } else if c = 1 then { s with h1 := s.h1 + 1 } else if c = 2 then { s with h2 := s.h2 + 1 } else { s with h3 := s.h3 + 1 }
def untilOf (s : Store) (e : Int) : Int := if e = 0 then 0 else min (s.clock + e) maxN
theorem rising_append (l r : List Item) : rising (l ++ r) = true → rising l = true := by
 induction l with
 | nil => intro _; rfl
 | cons a l ih =>
  cases l with
  | nil => intro _; rfl
  | cons b l =>
   intro h;simp only [List.cons_append, rising, Bool.and_eq_true] at h ⊢;exact ⟨h.1, ih (by simpa using h.2)⟩
theorem rising_snoc2 (l : List Item) (a b : Item) : rising (l ++ [a, b]) = (rising (l ++ [a]) && bytesLess (bl a.key) (bl b.key)) := by
 induction l with
 | nil => simp [rising]
 | cons c l ih =>
  cases l with
  | nil => simp [rising]
  | cons d l =>
   simp only [List.cons_append, rising] at ih ⊢;rw [ih, Bool.and_assoc]
theorem rising_take1 (l : List Item) : rising (l.take 1) = true := by
 cases l with
 | nil => rfl
 | cons a l => simp [rising]
theorem rising_step {l : List Item} {k : Nat} (hk : k + 1 < l.length) : rising (l.take (k + 2)) = (rising (l.take (k + 1)) && bytesLess (bl (l[k]'(by omega)).key) (bl l[k + 1].key)) := by
 have h1 : l.take (k + 1) = l.take k ++ [l[k]'(by omega)] := List.take_succ_eq_append_getElem (by omega);have h2 : l.take (k + 2) = l.take (k + 1) ++ [l[k + 1]] := List.take_succ_eq_append_getElem hk;rw [h2, h1, List.append_assoc, List.singleton_append, rising_snoc2]
theorem rising_bad {l : List Item} {k : Nat} (h : rising (l.take k) = false) : rising l = false := by
 cases hr : rising l with
 | false => rfl
 | true =>
  have := rising_append (l.take k) (l.drop k) (by rw [List.take_append_drop]; exact hr);rw [h] at this; cases this
theorem all_step {α : Type} {l : List α} {p : α → Bool} {k : Nat} (hk : k < l.length) : (l.take (k + 1)).all p = ((l.take k).all p && p l[k]) := by
 rw [List.take_succ_eq_append_getElem hk, List.all_append]; simp
theorem all_bad {α : Type} {l : List α} {p : α → Bool} {k : Nat} (hk : k < l.length) (h : p l[k] = false) : l.all p = false := by
 cases hr : l.all p with
 | false => rfl
 | true =>
  have := List.all_eq_true.1 hr l[k] (List.getElem_mem hk);rw [h] at this; cases this
def inCls (x : Item) (c : Int) : Bool := !x.far && x.cls == c
theorem countIn_step {l : List Item} {c : Int} {k : Nat} (hk : k < l.length) : countIn (l.take (k + 1)) c = countIn (l.take k) c + (if inCls l[k] c then 1 else 0) := by
 unfold countIn inCls;rw [List.take_succ_eq_append_getElem hk, List.filter_append, List.length_append]
 cases h : (!l[k].far && l[k].cls == c) <;> simp [h]
theorem countIn_zero (l : List Item) (c : Int) : countIn (l.take 0) c = 0 := by simp [countIn]
theorem countIn_le (l : List Item) (c : Int) : 0 ≤ countIn l c ∧ countIn l c ≤ l.length := by
 unfold countIn;have := List.length_filter_le (fun x : Item => !x.far && x.cls == c) l;omega
theorem classOf_good {k v : Int} (h : 1 ≤ k ∧ k ≤ 20 ∧ 0 ≤ v ∧ v ≤ 200) : classOf k v = (if 8 + k + v ≤ 32 then 0 else if 8 + k + v ≤ 64 then 1 else if 8 + k + v ≤ 128 then 2 else 3) := by
 unfold classOf; rw [if_pos h]
theorem classOf_bad {k v : Int} (h : ¬ (1 ≤ k ∧ k ≤ 20 ∧ 0 ≤ v ∧ v ≤ 200)) : classOf k v = -1 := by
 unfold classOf; rw [if_neg h]
theorem classOf_range {k v : Int} (h : 1 ≤ k ∧ k ≤ 20 ∧ 0 ≤ v ∧ v ≤ 200) : 0 ≤ classOf k v ∧ classOf k v ≤ 3 := by
 rw [classOf_good h]; split <;> (try split) <;> (try split) <;> omega
def lastTo (l : List Item) (c : Int) : Nat → Int
 | 0 => -1
 | k + 1 => match l[k]? with
  | none => lastTo l c k
  | some x => if inCls x c then
    (if lastTo l c k < 0 then (k : Int) else match l[(lastTo l c k).toNat]? with
     | some y => if x.used < y.used then (k : Int) else lastTo l c k
     | none => lastTo l c k)
   else lastTo l c k
theorem lastTo_range (l : List Item) (c : Int) : ∀ k, -1 ≤ lastTo l c k ∧ lastTo l c k < k
 | 0 => by simp [lastTo]
 | k + 1 => by
  have ih := lastTo_range l c k;unfold lastTo
  split
  ·omega
  ·split
   ·split
    ·omega
    ·split
     ·split <;> omega
     ·omega
   ·omega
theorem lastTo_skip {l : List Item} {c : Int} {k : Nat} (hk : k < l.length) (h : inCls l[k] c = false) : lastTo l c (k + 1) = lastTo l c k := by
 rw [lastTo, List.getElem?_eq_getElem hk]; simp [h]
theorem lastTo_first {l : List Item} {c : Int} {k : Nat} (hk : k < l.length) (h : inCls l[k] c = true) (hn : lastTo l c k < 0) : lastTo l c (k + 1) = k := by
 rw [lastTo, List.getElem?_eq_getElem hk]; simp [h, hn]
theorem lastTo_less {l : List Item} {c : Int} {k m : Nat} (hk : k < l.length) (h : inCls l[k] c = true) (hm : lastTo l c k = m) (hml : m < l.length) (hu : l[k].used < l[m].used) : lastTo l c (k + 1) = k := by
 rw [lastTo, List.getElem?_eq_getElem hk];have : ¬ (m : Int) < 0 := by omega
 simp [h, hm, this, List.getElem?_eq_getElem hml, hu]
theorem lastTo_more {l : List Item} {c : Int} {k m : Nat} (hk : k < l.length) (h : inCls l[k] c = true) (hm : lastTo l c k = m) (hml : m < l.length) (hu : ¬ l[k].used < l[m].used) : lastTo l c (k + 1) = m := by
 rw [lastTo, List.getElem?_eq_getElem hk];have : ¬ (m : Int) < 0 := by omega
 simp [h, hm, this, List.getElem?_eq_getElem hml, hu]
def oldest (l : List Item) (c : Int) : Int := lastTo l c l.length
def room (s : Store) (c : Int) : Store × Bool :=
 if countIn s.items c < s.held c * per c then (s, decide (s.items.length < 1000))
 else if s.h0 + s.h1 + s.h2 + s.h3 < s.most then (addHeld s c, decide (s.items.length < 1000))
 else if 0 ≤ oldest s.items c then (away s (oldest s.items c).toNat, decide ((away s (oldest s.items c).toNat).items.length < 1000))
 else (s, false)
def without (s : Store) (k : Str) : Store := if hasKey s.items k then { s with items := s.items.eraseIdx (findKey s.items k) } else s
def with1 (s : Store) (x : Item) : Store :=
 { s with cas := s.cas + 1, uses := s.uses + 1, items := s.items.insertIdx (findKey s.items (bl x.key)) { x with cas := s.cas + 1, used := s.uses + 1 } }
def put (s : Store) (x : Item) : Store × Bool :=
 let s1 := without s (bl x.key)
 if s1.cas = maxN then (s1, false)
 else if (room s1 x.cls).2 = true then (with1 (room s1 x.cls).1 x, true) else ((room s1 x.cls).1, false)
theorem less_cons (x y : UInt8) (a b : Str) : bytesLess (x :: a) (y :: b) = (decide (x < y) || (x == y && bytesLess a b)) := by
 show Op.bytesLess (x :: a) (y :: b) = _;rw [Op.bytesLess]
theorem le_flip : ∀ (a b : Str), (bytesLess a b || a == b) = !bytesLess b a
 | [], [] => rfl
 | [], _ :: _ => by simp [bytesLess, Op.bytesLess]
 | _ :: _, [] => by simp [bytesLess, Op.bytesLess]
 | x :: a, y :: b => by
  have ih := le_flip a b;rw [less_cons, less_cons]
  rcases Nat.lt_trichotomy x.toNat y.toNat with h | h | h
  ·have h1 : x < y := UInt8.lt_iff_toNat_lt.2 h
   have h2 : ¬ y < x := fun h' => by have := UInt8.lt_iff_toNat_lt.1 h'; omega
   have h3 : (y == x) = false := by rw [beq_eq_false_iff_ne]; intro e; rw [e] at h; omega
   simp [h1, h2, h3]
  ·obtain rfl : x = y := UInt8.toNat_inj.1 h
   have h2 : ¬ x < x := fun h' => by have := UInt8.lt_iff_toNat_lt.1 h'; omega
   simp only [h2, decide_false, beq_self_eq_true, Bool.true_and, Bool.false_or];rw [← ih]
   simp
  ·have h1 : y < x := UInt8.lt_iff_toNat_lt.2 h
   have h2 : ¬ x < y := fun h' => by have := UInt8.lt_iff_toNat_lt.1 h'; omega
   have h3 : (x == y) = false := by rw [beq_eq_false_iff_ne]; intro e; rw [e] at h; omega
   simp [h1, h2, h3]
theorem less_irrefl (a : Str) : bytesLess a a = false := by
 have := le_flip a a;simp only [beq_self_eq_true, Bool.or_true] at this
 cases h : bytesLess a a <;> simp [h] at this ⊢
theorem less_trans : ∀ {a b c : Str}, bytesLess a b = true → bytesLess b c = true → bytesLess a c = true
 | _, _, [], _, h => by cases ‹Str› <;> simp [bytesLess, Op.bytesLess] at h
 | _, [], _ :: _, h, _ => by cases ‹Str› <;> simp [bytesLess, Op.bytesLess] at h
 | [], _ :: _, _ :: _, _, _ => by simp [bytesLess, Op.bytesLess]
 | x :: a, y :: b, z :: c, h1, h2 => by
  rw [less_cons] at h1 h2 ⊢;simp only [Bool.or_eq_true, decide_eq_true_eq, Bool.and_eq_true, beq_iff_eq, UInt8.lt_iff_toNat_lt] at h1 h2 ⊢
  rcases h1 with h1 | ⟨e1, h1⟩ <;> rcases h2 with h2 | ⟨e2, h2⟩
  ·left; omega
  ·subst e2; left; exact h1
  ·subst e1; left; exact h2
  ·subst e1 e2; right; exact ⟨rfl, less_trans h1 h2⟩
theorem less_asymm {a b : Str} (h : bytesLess a b = true) : bytesLess b a = false := by
 cases h2 : bytesLess b a with
 | false => rfl
 | true => have := less_trans h h2; rw [less_irrefl] at this; cases this
theorem less_tri {a b : Str} (h1 : bytesLess a b = false) (h2 : bytesLess b a = false) : a = b := by
 have := le_flip a b;rw [h1, h2] at this
 simpa using this
def keysOf (l : List Item) : List Str := l.map (fun x => bl x.key)
theorem rising_pair (l : List Item) : rising l = true ↔ (keysOf l).Pairwise (fun a b => bytesLess a b = true) := by
 induction l with
 | nil => simp [rising, keysOf]
 | cons a l ih =>
  cases l with
  | nil => simp [rising, keysOf]
  | cons b l =>
   rw [rising, Bool.and_eq_true, ih];have e : keysOf (a :: b :: l) = bl a.key :: bl b.key :: keysOf l := rfl;have e2 : keysOf (b :: l) = bl b.key :: keysOf l := rfl;rw [e, e2, List.pairwise_cons (a := bl a.key)]
   constructor
   ·rintro ⟨h1, h2⟩
    refine ⟨fun k hk => ?_, h2⟩
    rcases List.mem_cons.1 hk with rfl | hk
    ·exact h1
    ·exact less_trans h1 ((List.pairwise_cons.1 h2).1 k hk)
   ·rintro ⟨h1, h2⟩
    exact ⟨h1 _ (List.mem_cons_self ..), h2⟩
theorem rising_sub {l r : List Item} (h : l.Sublist r) (hr : rising r = true) : rising l = true := by
 rw [rising_pair] at hr ⊢;exact hr.sublist (h.map _)
theorem keysOf_modify (l : List Item) (i : Nat) (f : Item → Item) (hf : ∀ x, (f x).key = x.key) : keysOf (l.modify i f) = keysOf l := by
 unfold keysOf;apply List.ext_getElem?;intro j;rw [List.getElem?_map, List.getElem?_map, List.getElem?_modify]
 cases l[j]? <;> simp <;> split <;> simp [hf]
theorem rising_modify {l : List Item} (i : Nat) (f : Item → Item) (hf : ∀ x, (f x).key = x.key) (h : rising l = true) : rising (l.modify i f) = true := by
 rw [rising_pair] at h ⊢;rw [keysOf_modify l i f hf]; exact h
theorem rising_get {l : List Item} (h : rising l = true) {i j : Nat} (hij : i < j) (hj : j < l.length) : bytesLess (bl (l[i]'(by omega)).key) (bl l[j].key) = true := by
 rw [rising_pair, List.pairwise_iff_getElem] at h;have := h i j (by simp [keysOf]; omega) (by simp [keysOf]; omega) hij
 simpa [keysOf] using this
theorem findKey_le (l : List Item) (k : Str) : findKey l k ≤ l.length := List.Sublist.length_le (List.takeWhile_sublist _)
theorem findKey_cons (x : Item) (l : List Item) (k : Str) : findKey (x :: l) k = if bytesLess (bl x.key) k = true then findKey l k + 1 else 0 := by
 unfold findKey;rw [List.takeWhile_cons]
 split <;> simp
theorem findKey_below : ∀ {l : List Item} {k : Str} {i : Nat} (hi : i < l.length), i < findKey l k → bytesLess (bl l[i].key) k = true
 | x :: l, k, i, hi, h => by
  rw [findKey_cons] at h
  split at h
  ·rename_i h0
   cases i with
   | zero => exact h0
   | succ i =>
    have hi' : i < l.length := by simpa using hi
    exact findKey_below hi' (Nat.lt_of_succ_lt_succ h)
  ·omega
theorem findKey_at : ∀ {l : List Item} {k : Str} (hi : findKey l k < l.length), bytesLess (bl l[findKey l k].key) k = false
 | x :: l, k, hi => by
  by_cases h : bytesLess (bl x.key) k = true
  ·have e : findKey (x :: l) k = findKey l k + 1 := by rw [findKey_cons, if_pos h]
   have hi' : findKey l k < l.length := by rw [e] at hi; simpa using hi
   have := findKey_at hi';simp only [e, List.getElem_cons_succ]; exact this
  ·have e : findKey (x :: l) k = 0 := by rw [findKey_cons, if_neg h]
   simp only [e, List.getElem_cons_zero]; simpa using h
theorem findKey_above {l : List Item} {k : Str} (hr : rising l = true) {i : Nat} (hi : i < l.length) (h : findKey l k ≤ i) : bytesLess (bl l[i].key) k = false := by
 have hl : findKey l k < l.length := by omega
 have h0 := findKey_at hl
 rcases Nat.eq_or_lt_of_le h with e | h1
 ·subst e; exact h0
 ·cases hc : bytesLess (bl l[i].key) k with
  | false => rfl
  | true =>
   have := less_trans (rising_get hr h1 hi) hc;rw [h0] at this; cases this
theorem findKey_uniq {l : List Item} {k : Str} {i : Nat} (hi : i ≤ l.length) (h1 : ∀ j (hj : j < l.length), j < i → bytesLess (bl l[j].key) k = true) (h2 : ∀ j (hj : j < l.length), i ≤ j → bytesLess (bl l[j].key) k = false) : findKey l k = i := by
 rcases Nat.lt_trichotomy (findKey l k) i with h | h | h
 ·have hl : findKey l k < l.length := by omega
  have a := h1 _ hl h;rw [findKey_at hl] at a; cases a
 ·exact h
 ·have hl := findKey_le l k
  have a := h2 i (by omega) (Nat.le_refl _);rw [findKey_below (by omega) h] at a; cases a
theorem hasKey_iff {l : List Item} {k : Str} : hasKey l k = true ↔ ∃ h : findKey l k < l.length, bl l[findKey l k].key = k := by
 unfold hasKey
 split
 ·rename_i x hx
  obtain ⟨h1, h2⟩ := List.getElem?_eq_some_iff.1 hx;subst h2
  simp [h1]
 ·rename_i hx
  have : l.length ≤ findKey l k := List.getElem?_eq_none_iff.1 hx
  simp; omega
theorem has_mem {l : List Item} {k : Str} (hr : rising l = true) {i : Nat} (hi : i < l.length) (h : bl l[i].key = k) : findKey l k = i := by
 refine findKey_uniq (by omega) (fun j hj hji => ?_) (fun j hj hij => ?_)
 ·rw [← h]; exact rising_get hr hji hi
 ·rcases Nat.eq_or_lt_of_le hij with e | e
  ·subst e; rw [h]; exact less_irrefl k
  ·rw [← h]; exact less_asymm (rising_get hr e hj)
theorem findKey_behind {l : List Item} {k : Str} (hr : rising l = true) (hn : hasKey l k = false) {i : Nat} (hi : i < l.length) (h : findKey l k ≤ i) : bytesLess k (bl l[i].key) = true := by
 have h0 := findKey_above hr hi h
 cases hc : bytesLess k (bl l[i].key) with
 | true => rfl
 | false =>
  have e := less_tri h0 hc;have e2 := has_mem hr hi e;rw [Bool.eq_false_iff] at hn;exact absurd (hasKey_iff.2 ⟨by omega, by simp only [e2]; exact e⟩) hn
theorem insertIdx_is {α : Type} (l : List α) (i : Nat) (x : α) (h : i ≤ l.length) : l.insertIdx i x = l.take i ++ x :: l.drop i := by
 induction l generalizing i with
 | nil => simp at h; subst h; simp
 | cons a l ih =>
  cases i with
  | zero => simp
  | succ i => simp [ih i (by simpa using h)]
theorem rising_insert {l : List Item} {x : Item} (hr : rising l = true) (hn : hasKey l (bl x.key) = false) : rising (l.insertIdx (findKey l (bl x.key)) x) = true := by
 have hle := findKey_le l (bl x.key);rw [insertIdx_is l _ x hle];have h0 := hr;rw [rising_pair] at hr ⊢;unfold keysOf at hr ⊢;rw [List.map_append, List.map_cons, List.pairwise_append, List.pairwise_cons];have hsplit : l.map (fun x => bl x.key) = (l.take (findKey l (bl x.key))).map (fun x => bl x.key) ++ (l.drop (findKey l (bl x.key))).map (fun x => bl x.key) := by rw [← List.map_append, List.take_append_drop]
 rw [hsplit, List.pairwise_append] at hr;refine ⟨hr.1, ⟨fun k hk => ?_, hr.2.1⟩, fun a ha b hb => ?_⟩
 ·obtain ⟨y, hy, rfl⟩ := List.mem_map.1 hk
  obtain ⟨j, hj, rfl⟩ := List.mem_iff_getElem.1 hy;rw [List.getElem_drop];exact findKey_behind h0 hn _ (by omega)
 ·rcases List.mem_cons.1 hb with rfl | hb
  ·obtain ⟨y, hy, rfl⟩ := List.mem_map.1 ha
   obtain ⟨j, hj, rfl⟩ := List.mem_iff_getElem.1 hy;rw [List.getElem_take];have hj' : j < findKey l (bl x.key) := by rw [List.length_take] at hj; omega
   exact findKey_below (by omega) hj'
  ·exact hr.2.2 a ha b hb
def recs (b : Str) (k : Nat) : List (Nat × Str) :=
 if k < b.length then (k, valAt b k) :: recs b (k + 3 + lenAt b k) else []
termination_by b.length - k
decreasing_by omega
theorem recs_step {b : Str} {k : Nat} (h : k < b.length) : recs b k = (k, valAt b k) :: recs b (k + 3 + lenAt b k) := by
 rw [recs, if_pos h]
theorem recs_end {b : Str} {k : Nat} (h : b.length ≤ k) : recs b k = [] := by
 rw [recs, if_neg (by omega)]
theorem findRec_recs (b : Str) (k : Nat) (q : Int) : findRec b k q = ((recs b k).find? (fun r => decide ((r.1 : Int) = q))).map (·.2) := by
 induction hn : b.length - k using Nat.strongRecOn generalizing k with
 | ind n ih =>
  by_cases hk : k < b.length
  ·rw [recs_step hk]
   by_cases e : (k : Int) = q
   ·rw [findRec_hit hk e]; simp [e]
   ·rw [findRec_miss hk e, ih _ (by omega) _ rfl]; simp [e]
  ·rw [findRec_end (by omega), recs_end (by omega)]; rfl
theorem recs_length (b : Str) (k : Nat) : (recs b k).length ≤ b.length - k := by
 induction hn : b.length - k using Nat.strongRecOn generalizing k with
 | ind n ih =>
  by_cases hk : k < b.length
  ·rw [recs_step hk]
   have := ih (b.length - (k + 3 + lenAt b k)) (by omega) _ rfl;simp only [List.length_cons]; omega
  ·rw [recs_end (by omega)]; simp
def rawAt (b : Str) (k : Nat) : Str := (b.drop k).take (3 + lenAt b k)
theorem rawAt_eq {b : Str} {k : Nat} (h : k + 3 + lenAt b k ≤ b.length) : rawAt b k = [b.getD k 0, b.getD (k + 1) 0, b.getD (k + 2) 0] ++ valAt b k := by
 have h0 : b.drop k = b.getD k 0 :: b.drop (k + 1) := by
  rw [List.drop_eq_getElem_cons (by omega)]; simp [List.getD_eq_getElem?_getD, show k < b.length by omega]
 have h1 : b.drop (k + 1) = b.getD (k + 1) 0 :: b.drop (k + 2) := by
  rw [List.drop_eq_getElem_cons (by omega)]; simp [List.getD_eq_getElem?_getD, show k + 1 < b.length by omega]
 have h2 : b.drop (k + 2) = b.getD (k + 2) 0 :: b.drop (k + 3) := by
  rw [List.drop_eq_getElem_cons (by omega)]; simp [List.getD_eq_getElem?_getD, show k + 2 < b.length by omega]
 unfold rawAt valAt;rw [h0, h1, h2, show 3 + lenAt b k = lenAt b k + 1 + 1 + 1 by omega]
 simp
theorem rec_raw {b : Str} {k : Nat} (h : k + 3 + lenAt b k ≤ b.length) (hn : lenAt b k ≤ 200) : recB b k = decide (rawAt b k = recordOf (valAt b k)) := by
 have hl : (valAt b k).length = lenAt b k := by simp [valAt]; omega
 have hs := sumOf_lt (valAt b k);have x1 := (b.getD (k + 1) 0).toNat_lt;have x2 := (b.getD (k + 2) 0).toNat_lt;rw [recB, decide_eq_decide, rawAt_eq h, recordOf, List.append_left_inj, hl];simp only [List.cons.injEq, and_true];have e0 : b.getD k 0 = UInt8.ofNat (lenAt b k) := by simp [lenAt]
 have e1 : ∀ (x : UInt8) (n : Nat), n < 256 → (x = UInt8.ofNat n ↔ x.toNat = n) := fun x n hn => by
  constructor
  ·rintro rfl; simp; omega
  ·intro h; rw [← h]; simp
 rw [e1 _ _ (show sumOf (valAt b k) / 256 < 256 by omega), e1 _ _ (show sumOf (valAt b k) % 256 < 256 by omega)]
 constructor
 ·rintro ⟨_, _, h3⟩; exact ⟨e0, by omega, by omega⟩
 ·rintro ⟨_, h3, h4⟩; exact ⟨h, hn, by omega⟩
theorem recs_good {b : Str} {k : Nat} (h : allRec b k = true) : ∀ r ∈ recs b k, r.2.length ≤ 200 ∧ r.1 < b.length := by
 induction hn : b.length - k using Nat.strongRecOn generalizing k with
 | ind n ih =>
  by_cases hk : k < b.length
  ·rw [recs_step hk]
   rw [allRec_step hk, Bool.and_eq_true] at h;intro r hr
   rcases List.mem_cons.1 hr with rfl | hr
   ·have := recB_le h.1
    exact ⟨by simp [valAt]; omega, hk⟩
   ·exact ih _ (by omega) h.2 rfl r hr
  ·rw [recs_end (by omega)]; simp
structure Prep where
 front : List Page
 num : Int
 bytes : Str
 next : Int
 gone : Int
def Flash.fits (f : Flash) (n : Nat) : Bool := match f.pages.getLast? with
 | some p => decide (p.bytes.length + 3 + n ≤ 256)
 | none => false
def Flash.prep (f : Flash) (n : Nat) : Prep :=
 if f.fits n then ⟨f.pages.dropLast, (f.pages.getLastD ⟨0, []⟩).number, (f.pages.getLastD ⟨0, []⟩).bytes, f.next, 0⟩
 else if (f.pages.length : Int) = f.most then ⟨f.pages.tail, f.next, [], f.next + 1, (f.pages.headD ⟨0, []⟩).number⟩
 else ⟨f.pages, f.next, [], f.next + 1, 0⟩
def Prep.pages (p : Prep) : List Page := p.front ++ [⟨p.num, p.bytes⟩]
theorem prep_shift {f : Flash} {n : Nat} (h : f.fits n = false) (hm : (f.pages.length : Int) = f.most) : f.prep n = ⟨f.pages.tail, f.next, [], f.next + 1, (f.pages.headD ⟨0, []⟩).number⟩ := by
 unfold Flash.prep; simp only [h, hm, Bool.false_eq_true, if_false, if_true]
theorem prep_new {f : Flash} {n : Nat} (h : f.fits n = false) (hm : ¬ (f.pages.length : Int) = f.most) : f.prep n = ⟨f.pages, f.next, [], f.next + 1, 0⟩ := by
 unfold Flash.prep; simp only [h, hm, Bool.false_eq_true, if_false]
theorem prep_fit {f : Flash} {n : Nat} (h : f.fits n = true) : f.prep n = ⟨f.pages.dropLast, (f.pages.getLastD ⟨0, []⟩).number, (f.pages.getLastD ⟨0, []⟩).bytes, f.next, 0⟩ := by
 unfold Flash.prep; simp only [h, if_true]
theorem append_bad {f : Flash} {s : Str} (h : f.ok = false) : f.append s = (Flash.zero, ⟨0, 0⟩, 0, 8) := by unfold Flash.append; rw [if_pos h]
theorem append_long {f : Flash} {s : Str} (h : f.ok = true) (h1 : 200 < s.length) : f.append s = (Flash.zero, ⟨0, 0⟩, 0, 1) := by
 unfold Flash.append; rw [if_neg (by rw [h]; simp), if_pos h1]
theorem append_full {f : Flash} {s : Str} (h : f.ok = true) (h1 : ¬ 200 < s.length) (h2 : f.most = 0 ∨ f.next = maxN) : f.append s = (Flash.zero, ⟨0, 0⟩, 0, 7) := by
 unfold Flash.append; rw [if_neg (by rw [h]; simp), if_neg h1, if_pos h2]
theorem append_good {f : Flash} {s : Str} (h : f.ok = true) (h1 : ¬ 200 < s.length) (h2 : ¬ (f.most = 0 ∨ f.next = maxN)) :
  f.append s = (⟨f.most, (f.prep s.length).next, (f.prep s.length).front ++ [⟨(f.prep s.length).num, (f.prep s.length).bytes ++ recordOf s⟩]⟩, ⟨(f.prep s.length).num, (f.prep s.length).bytes.length⟩, (f.prep s.length).gone, 0) := by
 unfold Flash.append;rw [if_neg (by rw [h]; simp), if_neg h1, if_neg h2]
 rcases hp : f.pages.getLast? with _ | p
 ·have hn : f.pages = [] := by simpa using hp
  have hf : f.fits s.length = false := by unfold Flash.fits; rw [hp]
  have hm : ¬ (f.pages.length : Int) = f.most := by
   rw [hn];intro e;exact h2 (.inl (by simpa using e.symm))
  rw [prep_new hf hm, hn]
  rfl
 ·have hl : f.pages.getLastD ⟨0, []⟩ = p := by rw [List.getLastD_eq_getLast?, hp]; rfl
  by_cases hfit : p.bytes.length + 3 + s.length ≤ 256
  ·have hf : f.fits s.length = true := by unfold Flash.fits; rw [hp]; simpa using hfit
   simp only [hfit, if_true];rw [prep_fit hf, hl]
  ·have hf : f.fits s.length = false := by unfold Flash.fits; rw [hp]; simpa using hfit
   simp only [hfit, if_false]
   by_cases hm : (f.pages.length : Int) = f.most
   ·rw [prep_shift hf hm]; simp only [hm, if_true]; rfl
   ·rw [prep_new hf hm]; simp only [hm, if_false]; rfl
theorem prep_small {f : Flash} {n : Nat} (h : f.pages.length ≤ 20) (hn : n ≤ 200) : (f.prep n).front.length ≤ 20 ∧ (f.prep n).bytes.length + 3 + n ≤ 256 := by
 cases hf : f.fits n
 ·by_cases hm : (f.pages.length : Int) = f.most
  ·rw [prep_shift hf hm]
   simp only [List.length_tail, List.length_nil]; omega
  ·rw [prep_new hf hm]
   simp only [List.length_nil]; omega
 ·rw [prep_fit hf]
  unfold Flash.fits at hf
  cases hp : f.pages.getLast? with
  | none => rw [hp] at hf; cases hf
  | some p =>
   rw [hp] at hf;have hl : f.pages.getLastD ⟨0, []⟩ = p := by rw [List.getLastD_eq_getLast?, hp]; rfl
   simp only [hl, List.length_dropLast]
   simp at hf
   omega
theorem fits_split {f : Flash} {n : Nat} (h : f.fits n = true) : ∃ front num by', f.pages = front ++ [⟨num, by'⟩] ∧ by'.length + 3 + n ≤ 256 ∧ f.prep n = ⟨front, num, by', f.next, 0⟩ := by
 have hp := prep_fit h;unfold Flash.fits at h
 cases hl : f.pages.getLast? with
 | none => rw [hl] at h; cases h
 | some p =>
  rw [hl] at h;have hd : f.pages.getLastD ⟨0, []⟩ = p := by rw [List.getLastD_eq_getLast?, hl]; rfl
  have hne : f.pages ≠ [] := by intro e; rw [e] at hl; cases hl
  have hc := List.dropLast_concat_getLast hne;rw [List.getLast?_eq_some_getLast hne] at hl
  cases hl
  refine ⟨f.pages.dropLast, (f.pages.getLast hne).number, (f.pages.getLast hne).bytes, hc.symm, by simpa using h, ?_⟩;rw [hp, hd]
theorem fits_no {f : Flash} {n : Nat} (h : f.fits n = false) : f.pages = [] ∨ ∃ front num by', f.pages = front ++ [⟨num, by'⟩] ∧ 256 < by'.length + 3 + n := by
 unfold Flash.fits at h
 cases hl : f.pages.getLast? with
 | none => left; simpa using hl
 | some p =>
  right
  rw [hl] at h;have hne : f.pages ≠ [] := by intro e; rw [e] at hl; cases hl
  have hc := List.dropLast_concat_getLast hne;rw [List.getLast?_eq_some_getLast hne] at hl
  cases hl
  exact ⟨f.pages.dropLast, (f.pages.getLast hne).number, (f.pages.getLast hne).bytes, hc.symm, by simpa using h⟩
theorem rec_len (s : Str) : (recordOf s).length = 3 + s.length := by unfold recordOf; simp; omega
theorem lenAt_app {b r : Str} {k : Nat} (h : k < b.length) : lenAt (b ++ r) k = lenAt b k := by
 unfold lenAt; simp [List.getD_eq_getElem?_getD, List.getElem?_append_left h]
theorem getD_app {b r : Str} {k : Nat} (h : k < b.length) : (b ++ r).getD k 0 = b.getD k 0 := by
 simp [List.getD_eq_getElem?_getD, List.getElem?_append_left h]
theorem valAt_app {b r : Str} {k : Nat} (h : k < b.length) (h2 : k + 3 + lenAt b k ≤ b.length) : valAt (b ++ r) k = valAt b k := by
 unfold valAt;rw [lenAt_app h, List.drop_append_of_le_length (by omega), List.take_append_of_le_length (by simp; omega)]
theorem recB_app {b r : Str} {k : Nat} (h : k < b.length) (h2 : k + 3 + lenAt b k ≤ b.length) : recB (b ++ r) k = recB b k := by
 unfold recB;rw [lenAt_app h, valAt_app h h2, getD_app (show k + 1 < b.length by omega), getD_app (show k + 2 < b.length by omega), decide_eq_decide]
 constructor
 ·rintro ⟨_, h4, h5⟩; exact ⟨h2, h4, h5⟩
 ·rintro ⟨_, h4, h5⟩; exact ⟨by simp; omega, h4, h5⟩
theorem lenAt_rec (b s : Str) (hs : s.length ≤ 200) : lenAt (b ++ recordOf s) b.length = s.length := by
 unfold lenAt recordOf
 simp [List.getD_eq_getElem?_getD]
 omega
theorem valAt_rec (b s : Str) (hs : s.length ≤ 200) : valAt (b ++ recordOf s) b.length = s := by
 unfold valAt;rw [lenAt_rec b s hs, List.drop_append, List.drop_eq_nil_of_le (by omega), List.nil_append, show b.length + 3 - b.length = 3 by omega];unfold recordOf
 simp
theorem recB_rec (b s : Str) (hs : s.length ≤ 200) : recB (b ++ recordOf s) b.length = true := by
 have h1 := lenAt_rec b s hs;have h2 := valAt_rec b s hs;rw [rec_raw (by rw [h1, List.length_append, rec_len]; omega) (by omega), decide_eq_true_eq, h2];unfold rawAt;rw [h1, List.drop_append, List.drop_eq_nil_of_le (by omega), List.nil_append, Nat.sub_self, List.drop_zero, List.take_of_length_le (by rw [rec_len]; omega)]
theorem find_app {b s : Str} (hs : s.length ≤ 200) (q : Int) (k : Nat) (h : allRec b k = true) (hk : k ≤ b.length) :
  findRec (b ++ recordOf s) k q = if q = (b.length : Int) then some s else findRec b k q := by
 have hl := rec_len s
 induction hn : b.length - k using Nat.strongRecOn generalizing k with
 | ind n ih =>
  by_cases hkl : k < b.length
  ·rw [allRec_step hkl, Bool.and_eq_true] at h
   have hr := recB_le h.1
   by_cases e : (k : Int) = q
   ·rw [findRec_hit (by simp; omega) e, findRec_hit hkl e, valAt_app hkl hr.1, if_neg (by omega)]
   ·rw [findRec_miss (by simp; omega) e, findRec_miss hkl e, lenAt_app hkl]
    exact ih _ (by omega) _ h.2 hr.1 rfl
  ·obtain rfl : k = b.length := by omega
   rw [findRec_end (b := b) (Nat.le_refl _)]
   by_cases e : (b.length : Int) = q
   ·rw [findRec_hit (by simp; omega) e, valAt_rec b s hs, if_pos e.symm]
   ·rw [findRec_miss (by simp; omega) e, lenAt_rec b s hs, findRec_end (by simp; omega), if_neg (fun x => e x.symm)]
theorem all_app {b s : Str} (hs : s.length ≤ 200) (k : Nat) (h : allRec b k = true) (hk : k ≤ b.length) : allRec (b ++ recordOf s) k = true := by
 have hl := rec_len s
 induction hn : b.length - k using Nat.strongRecOn generalizing k with
 | ind n ih =>
  by_cases hkl : k < b.length
  ·rw [allRec_step hkl, Bool.and_eq_true] at h
   have hr := recB_le h.1;rw [allRec_step (by simp; omega), recB_app hkl hr.1, h.1, lenAt_app hkl, Bool.true_and];exact ih _ (by omega) _ h.2 hr.1 rfl
  ·obtain rfl : k = b.length := by omega
   rw [allRec_step (by simp; omega), recB_rec b s hs, lenAt_rec b s hs, allRec_end (by simp; omega)]; rfl
def rdL (l : List Page) (q : Place) : Option Str := match l.find? (fun p => p.number == q.page) with
 | none => none
 | some p => findRec p.bytes 0 q.off
def Flash.rd (f : Flash) (q : Place) : Option Str := rdL f.pages q
theorem pagesOK_app (a b : List Page) (n : Int) : pagesOK (a ++ b) n = (pagesOK a n && pagesOK b (n + a.length)) := by
 induction a generalizing n with
 | nil => simp [pagesOK]
 | cons p r ih => rw [List.cons_append, pagesOK_cons, pagesOK_cons, ih, List.length_cons, show n + 1 + (r.length : Int) = n + ((r.length + 1 : Nat) : Int) by omega]; simp [Bool.and_assoc]
theorem pages_num {l : List Page} {n : Int} (h : pagesOK l n = true) : ∀ p ∈ l, n ≤ p.number ∧ p.number < n + l.length ∧ 1 ≤ p.number ∧ allRec p.bytes 0 = true ∧ 1 ≤ p.bytes.length ∧ p.bytes.length ≤ 256 := by
 induction l generalizing n with
 | nil => simp
 | cons p r ih =>
  rw [pagesOK_cons, Bool.and_eq_true, Bool.and_eq_true, decide_eq_true_eq] at h;obtain ⟨⟨⟨h1, h2, h3, h4⟩, h5⟩, h6⟩ := h;intro x hx
  rcases List.mem_cons.1 hx with rfl | hx
  ·exact ⟨by omega, by simp; omega, by omega, h5, h3, h4⟩
  ·obtain ⟨g1, g2, g3, g4⟩ := ih h6 x hx
   exact ⟨by omega, by simp; omega, g3, g4⟩
theorem rdL_none {l : List Page} {q : Place} (h : ∀ p ∈ l, p.number ≠ q.page) : rdL l q = none := by
 unfold rdL;rw [List.find?_eq_none.2 (fun p hp => by simpa using h p hp)]
theorem rdL_snoc {l : List Page} {p : Page} {n : Int} (h : pagesOK l n = true) (hp : p.number = n + l.length) (q : Place) :
  rdL (l ++ [p]) q = if q.page = p.number then findRec p.bytes 0 q.off else rdL l q := by
 by_cases e : q.page = p.number
 ·rw [if_pos e]
  unfold rdL;rw [List.find?_append, List.find?_eq_none.2 (fun x hx => by have := pages_num h x hx; simp; omega)]
  simp [e]
 ·rw [if_neg e]
  unfold rdL;rw [List.find?_append];have : ([p].find? fun x => x.number == q.page) = none := by simp; intro h; exact e h.symm
  rw [this, Option.or_none]
theorem rdL_tail {p : Page} {l : List Page} {n : Int} (h : pagesOK (p :: l) n = true) (q : Place) : rdL l q = if q.page = p.number then none else rdL (p :: l) q := by
 rw [pagesOK_cons, Bool.and_eq_true, Bool.and_eq_true, decide_eq_true_eq] at h
 by_cases e : q.page = p.number
 ·rw [if_pos e]
  exact rdL_none (fun x hx => by have := pages_num h.2 x hx; omega)
 ·rw [if_neg e]
  unfold rdL;rw [List.find?_cons_of_neg (by simp; exact fun h => e h.symm)]
theorem find_rec0 {s : Str} (hs : s.length ≤ 200) (q : Int) : findRec (recordOf s) 0 q = if q = 0 then some s else none := by
 have := find_app (b := []) hs q 0 (by rw [allRec_end (by simp)]) (by simp);rw [findRec_end (b := []) (by simp)] at this
 simpa using this
theorem all_rec0 {s : Str} (hs : s.length ≤ 200) : allRec (recordOf s) 0 = true := by
 have := all_app (b := []) hs 0 (by rw [allRec_end (by simp)]) (by simp)
 simpa using this
theorem fok_parts {f : Flash} (h : f.ok = true) : (0 ≤ f.most ∧ f.most ≤ 20 ∧ (f.pages.length : Int) ≤ f.most ∧ 1 ≤ f.next ∧ f.next ≤ maxN) ∧ pagesOK f.pages (f.next - f.pages.length) = true := by
 unfold Flash.ok at h;rw [Bool.and_eq_true, decide_eq_true_eq] at h;exact h
theorem ok_mk {f : Flash} (h : 0 ≤ f.most ∧ f.most ≤ 20 ∧ (f.pages.length : Int) ≤ f.most ∧ 1 ≤ f.next ∧ f.next ≤ maxN) (h2 : pagesOK f.pages (f.next - f.pages.length) = true) : f.ok = true := by
 unfold Flash.ok;rw [Bool.and_eq_true, decide_eq_true_eq];exact ⟨h, h2⟩
theorem place_eq {q : Place} {a b : Int} (h1 : q.page = a) (h2 : q.off = b) : q = ⟨a, b⟩ := by
 obtain ⟨x, y⟩ := q;simp only at h1 h2;rw [h1, h2]
theorem place_off {q : Place} {a b : Int} (h : q.off ≠ b) : ¬ q = ⟨a, b⟩ := fun e => h (by rw [e])
theorem place_page {q : Place} {a b : Int} (h : q.page ≠ a) : ¬ q = ⟨a, b⟩ := fun e => h (by rw [e])
structure Appended (f g : Flash) (s : Str) (p : Place) (gone : Int) : Prop where
 ok : g.ok = true
 most : g.most = f.most
 next : g.next ≤ f.next + 1
 new : f.rd p = none
 rd : ∀ q, g.rd q = if q = p then some s else if q.page = gone then none else f.rd q
 page : 1 ≤ p.page ∧ 0 ≤ p.off
theorem append_is {f : Flash} {s : Str} (h : f.ok = true) (hs : s.length ≤ 200) (hm : f.most ≠ 0) (hn : f.next ≠ maxN) :
  ∃ g p gone, f.append s = (g, p, gone, 0) ∧ Appended f g s p gone := by
 obtain ⟨⟨a1, a2, a3, a4, a5⟩, a6⟩ := fok_parts h;have ha := append_good (s := s) h (by omega) (by simp [hm, hn]);have hzero : ∀ q : Place, q.page = 0 → f.rd q = none := fun q hq => rdL_none (fun p hp => by have := pages_num a6 p hp; omega)
 have hnew : ∀ q : Place, q.page = f.next → f.rd q = none := fun q hq => rdL_none (fun p hp => by have := pages_num a6 p hp; omega)
 refine ⟨_, _, _, ha, ?_⟩
 cases hf : f.fits s.length
 ·by_cases hl : (f.pages.length : Int) = f.most
  ·rw [prep_shift hf hl]
   cases hp : f.pages with
   | nil => rw [hp] at hl; simp at hl; omega
   | cons p0 r =>
    have hN : maxN = 1099511627776 := rfl;rw [hp, List.length_cons] at a6 a3 hl;have e0 : (f.next - ((r.length + 1 : Nat) : Int)) + 1 = f.next - r.length := by omega
    have a6' := a6;rw [pagesOK_cons, e0, Bool.and_eq_true, Bool.and_eq_true, decide_eq_true_eq] at a6';have hr := a6'.2;have hp0 := a6'.1.1.1;have hgl : r.length + 1 = (r ++ [(⟨f.next, recordOf s⟩ : Page)]).length := by simp
    refine ⟨?_, rfl, by simp, hnew _ rfl, fun q => ?_, by simpa using a4⟩
    ·refine ok_mk ⟨a1, a2, by simp; omega, by simp; omega, by simp; omega⟩ ?_
     simp only [List.nil_append, List.tail_cons];rw [pagesOK_app, ← hgl, show f.next + 1 - ((r.length + 1 : Nat) : Int) = f.next - r.length by omega, hr, Bool.true_and, show f.next - (r.length : Int) + r.length = f.next by omega];rw [pagesOK_cons, all_rec0 hs]
     simp [rec_len, pagesOK]
     omega
    ·show rdL (r ++ [⟨f.next, recordOf s⟩]) q = if q = ⟨f.next, 0⟩ then some s else if q.page = p0.number then none else rdL f.pages q
     rw [rdL_snoc hr (show f.next = f.next - (r.length : Int) + r.length by omega), rdL_tail a6, find_rec0 hs, hp];simp only
     by_cases e1 : q.page = f.next
     ·rw [if_pos e1]
      have e3 : ¬ q.page = p0.number := by omega
      by_cases e2 : q.off = 0
      ·rw [if_pos e2, if_pos (place_eq e1 e2)]
      ·have hx := hnew q e1
       unfold Flash.rd at hx;rw [hp] at hx;rw [if_neg e2, if_neg (place_off e2), if_neg e3, hx]
     ·rw [if_neg e1, if_neg (place_page e1)]
  ·rw [prep_new hf hl]
   have hgl : f.pages.length + 1 = (f.pages ++ [(⟨f.next, recordOf s⟩ : Page)]).length := by simp
   have hN : maxN = 1099511627776 := rfl;refine ⟨?_, rfl, by simp, hnew _ rfl, fun q => ?_, by simpa using a4⟩
   ·refine ok_mk ⟨a1, a2, by simp; omega, by simp; omega, by simp; omega⟩ ?_
    simp only [List.nil_append];rw [pagesOK_app, ← hgl, show f.next + 1 - ((f.pages.length + 1 : Nat) : Int) = f.next - f.pages.length by omega, a6, Bool.true_and, show f.next - (f.pages.length : Int) + f.pages.length = f.next by omega];rw [pagesOK_cons, all_rec0 hs]
    simp [rec_len, pagesOK]
    omega
   ·show rdL (f.pages ++ [⟨f.next, recordOf s⟩]) q = if q = ⟨f.next, 0⟩ then some s else if q.page = 0 then none else rdL f.pages q
    rw [rdL_snoc a6 (show f.next = f.next - (f.pages.length : Int) + f.pages.length by omega), find_rec0 hs];simp only
    by_cases e1 : q.page = f.next
    ·rw [if_pos e1]
     by_cases e2 : q.off = 0
     ·rw [if_pos e2, if_pos (place_eq e1 e2)]
     ·have hx := hnew q e1
      unfold Flash.rd at hx;rw [if_neg e2, if_neg (place_off e2), if_neg (by omega), hx]
    ·rw [if_neg e1, if_neg (place_page e1)]
     by_cases e0 : q.page = 0
     ·rw [if_pos e0]; exact hzero q e0
     ·rw [if_neg e0]
 ·obtain ⟨fr, num, by', hp, hlen, hpr⟩ := fits_split hf
  rw [hpr];have hN : maxN = 1099511627776 := rfl;have a6' : pagesOK (fr ++ [⟨num, by'⟩]) (f.next - f.pages.length) = true := by rw [← hp]; exact a6
  rw [pagesOK_app, Bool.and_eq_true, pagesOK_cons, Bool.and_eq_true, Bool.and_eq_true, decide_eq_true_eq] at a6';obtain ⟨b1, ⟨⟨b2, b3, b4, b5⟩, b6⟩, _⟩ := a6';have hpl : f.pages.length = fr.length + 1 := by rw [hp]; simp
  simp only at b2 b3 b4 b5 b6;refine ⟨?_, rfl, by simp only; omega, ?_, fun q => ?_, ⟨by simp only; omega, by simp only; omega⟩⟩
  ·refine ok_mk ⟨a1, a2, by simp; omega, by simp only; omega, by simp only; omega⟩ ?_
   simp only;have hgl : (fr ++ [(⟨num, by' ++ recordOf s⟩ : Page)]).length = f.pages.length := by rw [hpl]; simp
   rw [hgl, pagesOK_app, b1, Bool.true_and, pagesOK_cons, all_app hs 0 b6 (by omega)]
   simp [rec_len, pagesOK]
   omega
  ·unfold Flash.rd
   rw [hp, rdL_snoc b1 b2, if_pos rfl];have := find_app (b := by') hs (by'.length : Int) 0 b6 (by omega);simp only;rw [findRec_recs];rw [List.find?_eq_none.2 (fun x hx => by have := (recs_good b6 x hx).2; simp; omega)]
   rfl
  ·show rdL (fr ++ [⟨num, by' ++ recordOf s⟩]) q = if q = ⟨num, by'.length⟩ then some s else if q.page = 0 then none else rdL f.pages q
   rw [rdL_snoc b1 (show num = f.next - (f.pages.length : Int) + fr.length from b2), hp, rdL_snoc b1 b2, find_app hs q.off 0 b6 (by omega)];simp only
   by_cases e1 : q.page = num
   ·rw [if_pos e1, if_pos e1]
    by_cases e2 : q.off = (by'.length : Int)
    ·rw [if_pos e2, if_pos (place_eq e1 e2)]
    ·rw [if_neg e2, if_neg (place_off e2), if_neg (by omega)]
   ·rw [if_neg e1, if_neg e1, if_neg (place_page e1)]
    by_cases e0 : q.page = 0
    ·rw [if_pos e0]
     have hx := hzero q e0;unfold Flash.rd at hx;rw [hp, rdL_snoc b1 b2, if_neg e1] at hx;exact hx
    ·rw [if_neg e0]
theorem rd_some {f : Flash} (h : f.ok = true) {q : Place} {s : Str} (hq : f.rd q = some s) : ∃ i, ∃ hi : i < f.pages.length, f.pages[i].number = q.page ∧ 0 ≤ q.off ∧ q.off < 256 ∧ findRec f.pages[i].bytes 0 q.off = some s := by
 obtain ⟨_, a6⟩ := fok_parts h;unfold Flash.rd rdL at hq
 cases hp : f.pages.find? (fun p => p.number == q.page) with
 | none => rw [hp] at hq; cases hq
 | some p =>
  rw [hp] at hq;simp only at hq;have hm := List.mem_of_find?_eq_some hp;have hn := List.find?_some hp;obtain ⟨i, hi, rfl⟩ := List.mem_iff_getElem.1 hm;have h5 := pages_num a6 _ hm;refine ⟨i, hi, by simpa using hn, ?_⟩;have hq' := hq;rw [findRec_recs] at hq;obtain ⟨r, hr, hr2⟩ := Option.map_eq_some_iff.1 hq;have h6 := recs_good h5.2.2.2.1 r (List.mem_of_find?_eq_some hr);have h7 : (r.1 : Int) = q.off := by simpa using List.find?_some hr
  exact ⟨by omega, by omega, hq'⟩
def sev (n : Nat) : Str := if n < 128 then [UInt8.ofNat n] else UInt8.ofNat (128 + n % 128) :: sev (n / 128)
termination_by n
decreasing_by omega
def textOf (s : Str) : Str := sev s.length ++ s
def itemBytes (x : Item) : Str :=
 textOf (bl x.key) ++ sev x.flags.toNat ++ sev x.till.toNat ++ sev x.cas.toNat ++ sev x.used.toNat ++ (if x.far then sev 1 ++ sev x.place.page.toNat ++ sev x.place.off.toNat else sev 0 ++ textOf (bl x.value))
def numsOf (s : Store) : List Int := [s.clock, s.cas, s.uses, s.most, s.h0, s.h1, s.h2, s.h3, s.flash.most, s.flash.next, s.flash.pages.length]
def sevs (l : List Int) : Str := l.flatMap fun n => sev n.toNat
def pagesBytes (l : List Page) : Str := l.flatMap fun p => textOf p.bytes
def itemsBytes (l : List Item) : Str := l.flatMap itemBytes
def bodyOf (s : Store) : Str := [100, 99, 49] ++ sevs (numsOf s) ++ pagesBytes s.flash.pages ++ sev s.items.length ++ itemsBytes s.items
def adStep (p : Nat × Nat) (c : UInt8) : Nat × Nat := ((p.1 + c.toNat) % 65521, (p.2 + (p.1 + c.toNat) % 65521) % 65521)
def ad (l : Str) : Nat × Nat := l.foldl adStep (1, 0)
def sealOf (l : Str) : Str := [UInt8.ofNat ((ad l).2 / 256), UInt8.ofNat ((ad l).2 % 256), UInt8.ofNat ((ad l).1 / 256), UInt8.ofNat ((ad l).1 % 256)]
def Store.bytes (s : Store) : Str × Int := if s.ok = false then ([], 8) else (bodyOf s ++ sealOf (bodyOf s), 0)
theorem findRec_some {b : Str} {q : Int} {v : Str} : ∀ {k : Nat}, findRec b k q = some v → ∃ j : Nat, q = j ∧ j < b.length := by
 intro k
 induction hn : b.length - k using Nat.strongRecOn generalizing k with
 | ind n ih =>
  intro h
  by_cases hk : k < b.length
  ·by_cases e : (k : Int) = q
   ·exact ⟨k, e.symm, hk⟩
   ·rw [findRec_miss hk e] at h
    exact ih _ (by omega) rfl h
  ·rw [findRec_end (by omega)] at h; cases h
theorem pagesOK_num : ∀ (ps : List Page) (n : Int), pagesOK ps n = true → ∀ p ∈ ps, 1 ≤ p.number ∧ p.number < n + ps.length ∧ p.bytes.length ≤ 256
 | [], _, _, p, hp => by simp at hp
 | q :: r, n, h, p, hp => by
  rw [pagesOK_cons, Bool.and_eq_true, Bool.and_eq_true, decide_eq_true_eq] at h;obtain ⟨⟨⟨h1, h2, h3, h4⟩, _⟩, h5⟩ := h
  rcases List.mem_cons.1 hp with rfl | hp
  ·exact ⟨by omega, by simp only [List.length_cons]; omega, h4⟩
  ·have := pagesOK_num r _ h5 p hp
   simp only [List.length_cons]; omega
theorem flash_nums {f : Flash} (h : f.ok = true) : (0 ≤ f.most ∧ f.most ≤ 20) ∧ (1 ≤ f.next ∧ f.next ≤ 1099511627776) ∧ f.pages.length ≤ 20 ∧ ∀ p ∈ f.pages, 1 ≤ p.number ∧ p.number ≤ 1099511627776 ∧ p.bytes.length ≤ 256 := by
 unfold Flash.ok at h;rw [Bool.and_eq_true, decide_eq_true_eq] at h;obtain ⟨⟨h1, h2, h3, h4, h5⟩, h6⟩ := h;have : maxN = 1099511627776 := rfl;refine ⟨by omega, by omega, by omega, fun p hp => ?_⟩;have := pagesOK_num _ _ h6 p hp;omega
theorem place_nums {f : Flash} {q : Place} (h : (f.read q).2 = 0) : (1 ≤ q.page ∧ q.page ≤ 1099511627776) ∧ 0 ≤ q.off ∧ q.off < 256 := by
 unfold Flash.read at h
 cases hok : f.ok with
 | false => rw [hok] at h; simp at h
 | true =>
  rw [hok] at h;simp only [Bool.true_eq_false, if_false] at h;unfold Flash.pageOf at h
  cases hp : f.pages.find? (fun p => p.number == q.page) with
  | none => rw [hp] at h; simp at h
  | some p =>
   rw [hp] at h;have hm := List.mem_of_find?_eq_some hp;have he := List.find?_some hp;have hb := (flash_nums hok).2.2.2 p hm;have e : p.number = q.page := by simpa using he
   cases hr : findRec p.bytes 0 q.off with
   | none => simp only at h; rw [hr] at h; simp at h
   | some v =>
    obtain ⟨j, hj, hl⟩ := findRec_some hr;omega
structure ItemNums (x : Item) : Prop where
 key : 1 ≤ x.key.size ∧ x.key.size ≤ 20
 flags : 0 ≤ x.flags ∧ x.flags ≤ 65535
 till : 0 ≤ x.till ∧ x.till ≤ 1099511627776
 cas : 1 ≤ x.cas ∧ x.cas ≤ 1099511627776
 used : 1 ≤ x.used ∧ x.used ≤ 1099511627776
 value : x.value.size ≤ 200
 place : x.far = true → (1 ≤ x.place.page ∧ x.place.page ≤ 1099511627776) ∧ 0 ≤ x.place.off ∧ x.place.off < 256
theorem bl_len (s : ByteArray) : (bl s).length = s.size := by simp [bl]
theorem item_nums {s : Store} {x : Item} (h : itemOK s x = true) (h1 : s.cas ≤ 1099511627776) (h2 : s.uses ≤ 1099511627776) : ItemNums x := by
 unfold itemOK at h;simp only [Bool.and_eq_true, decide_eq_true_eq] at h;obtain ⟨⟨⟨⟨⟨⟨k1, k2⟩, k3⟩, k4⟩, k5⟩, k6⟩, k7⟩ := h;have : maxN = 1099511627776 := rfl;unfold cnt at k3;rw [decide_eq_true_eq] at k3;unfold keyOK keyL at k1;rw [Bool.and_eq_true, decide_eq_true_eq, bl_len] at k1;refine ⟨by omega, k2, by omega, by omega, by omega, k6, fun hf => ?_⟩;rw [hf] at k7;simp only [if_true, Bool.and_eq_true, decide_eq_true_eq] at k7;exact place_nums k7.1.1
structure StoreNums (s : Store) : Prop where
 clock : 0 ≤ s.clock ∧ s.clock ≤ 1099511627776
 cas : 0 ≤ s.cas ∧ s.cas ≤ 1099511627776
 uses : 0 ≤ s.uses ∧ s.uses ≤ 1099511627776
 most : 0 ≤ s.most ∧ s.most ≤ 40
 h0 : 0 ≤ s.h0 ∧ s.h0 ≤ 40
 h1 : 0 ≤ s.h1 ∧ s.h1 ≤ 40
 h2 : 0 ≤ s.h2 ∧ s.h2 ≤ 40
 h3 : 0 ≤ s.h3 ∧ s.h3 ≤ 40
 len : s.items.length ≤ 1000
 flash : s.flash.ok = true
 items : ∀ x ∈ s.items, ItemNums x
structure SOk (s : Store) : Prop where
 clock : 0 ≤ s.clock ∧ s.clock ≤ maxN
 cas : 0 ≤ s.cas ∧ s.cas ≤ maxN
 uses : 0 ≤ s.uses ∧ s.uses ≤ maxN
 most : 0 ≤ s.most ∧ s.most ≤ 40
 len : s.items.length ≤ 1000
 flash : s.flash.ok = true
 h0 : 0 ≤ s.h0 ∧ s.h0 ≤ s.most
 h1 : 0 ≤ s.h1 ∧ s.h1 ≤ s.most
 h2 : 0 ≤ s.h2 ∧ s.h2 ≤ s.most
 h3 : 0 ≤ s.h3 ∧ s.h3 ≤ s.most
 items : ∀ x ∈ s.items, itemOK s x = true
 rise : rising s.items = true
 c0 : countIn s.items 0 ≤ s.h0 * 8
 c1 : countIn s.items 1 ≤ s.h1 * 4
 c2 : countIn s.items 2 ≤ s.h2 * 2
 c3 : countIn s.items 3 ≤ s.h3
 sum : s.h0 + s.h1 + s.h2 + s.h3 ≤ s.most
theorem ok_iff (s : Store) : s.ok = true ↔ SOk s := by
 unfold Store.ok cnt heldOK;simp only [Bool.and_eq_true, decide_eq_true_eq, List.all_eq_true]
 constructor
 ·rintro ⟨⟨⟨⟨⟨⟨⟨⟨⟨⟨⟨⟨⟨⟨⟨⟨a1, a2⟩, a3⟩, a4⟩, a5⟩, a6⟩, b0⟩, b1⟩, b2⟩, b3⟩, hi⟩, hr⟩, c0⟩, c1⟩, c2⟩, c3⟩, h⟩
  exact ⟨a1, a2, a3, a4, a5, a6, b0, b1, b2, b3, hi, hr, c0, c1, c2, c3, h⟩
 ·rintro ⟨a1, a2, a3, a4, a5, a6, b0, b1, b2, b3, hi, hr, c0, c1, c2, c3, h⟩
  exact ⟨⟨⟨⟨⟨⟨⟨⟨⟨⟨⟨⟨⟨⟨⟨⟨a1, a2⟩, a3⟩, a4⟩, a5⟩, a6⟩, b0⟩, b1⟩, b2⟩, b3⟩, hi⟩, hr⟩, c0⟩, c1⟩, c2⟩, c3⟩, h⟩
theorem itemOK_iff (s : Store) (x : Item) : itemOK s x = true ↔ keyOK x.key = true ∧ (0 ≤ x.flags ∧ x.flags ≤ 65535) ∧ (0 ≤ x.till ∧ x.till ≤ maxN) ∧ (1 ≤ x.cas ∧ x.cas ≤ s.cas) ∧ (1 ≤ x.used ∧ x.used ≤ s.uses) ∧ x.value.size ≤ 200 ∧
  (x.far = true → (s.flash.read x.place).2 = 0 ∧ x.value.size = 0 ∧ 24 ≤ (s.flash.read x.place).1.length) ∧ (x.far = false → x.place = ⟨0, 0⟩) := by
 unfold itemOK cnt
 cases h : x.far <;> simp only [Bool.and_eq_true, decide_eq_true_eq, if_true, Bool.false_eq_true, if_false, false_implies, true_implies, true_and, and_true, reduceCtorEq] <;> constructor
 ·rintro ⟨⟨⟨⟨⟨⟨a, b⟩, c⟩, d⟩, e⟩, f⟩, g⟩; exact ⟨a, b, c, d, e, f, g⟩
 ·rintro ⟨a, b, c, d, e, f, g⟩; exact ⟨⟨⟨⟨⟨⟨a, b⟩, c⟩, d⟩, e⟩, f⟩, g⟩
 ·rintro ⟨⟨⟨⟨⟨⟨a, b⟩, c⟩, d⟩, e⟩, f⟩, ⟨g, h⟩, i⟩; exact ⟨a, b, c, d, e, f, g, h, i⟩
 ·rintro ⟨a, b, c, d, e, f, g, h, i⟩; exact ⟨⟨⟨⟨⟨⟨a, b⟩, c⟩, d⟩, e⟩, f⟩, ⟨g, h⟩, i⟩
theorem itemOK_up {s t : Store} {x : Item} (h : itemOK s x = true) (hc : s.cas ≤ t.cas) (hu : s.uses ≤ t.uses) (hf : x.far = true → t.flash.read x.place = s.flash.read x.place) : itemOK t x = true := by
 rw [itemOK_iff] at h ⊢;obtain ⟨a, b, c, d, e, f, g, i⟩ := h;exact ⟨a, b, c, ⟨d.1, by omega⟩, ⟨e.1, by omega⟩, f, fun hx => by rw [hf hx]; exact g hx, i⟩
theorem countIn_app (a b : List Item) (c : Int) : countIn (a ++ b) c = countIn a c + countIn b c := by
 unfold countIn; rw [List.filter_append, List.length_append]; omega
theorem countIn_cons (x : Item) (l : List Item) (c : Int) : countIn (x :: l) c = (if inCls x c then 1 else 0) + countIn l c := by
 rw [← List.singleton_append, countIn_app]; congr 1;unfold countIn inCls; rw [List.filter_cons]; split <;> rfl
theorem countIn_sub {l r : List Item} (h : l.Sublist r) (c : Int) : countIn l c ≤ countIn r c := by
 unfold countIn; exact Int.ofNat_le.2 (h.filter _).length_le
theorem split_at {l : List Item} {i : Nat} (hi : i < l.length) : l = l.take i ++ l[i] :: l.drop (i + 1) := by
 rw [← List.drop_eq_getElem_cons hi, List.take_append_drop]
theorem modify_is {l : List Item} {i : Nat} (hi : i < l.length) (f : Item → Item) : l.modify i f = l.take i ++ f l[i] :: l.drop (i + 1) := by
 apply List.ext_getElem?;intro j;rw [List.getElem?_modify]
 rcases Nat.lt_trichotomy j i with h | h | h
 ·rw [List.getElem?_append_left (by rw [List.length_take]; omega), List.getElem?_take, if_pos h]
  simp [show ¬ i = j by omega]
 ·subst h
  rw [List.getElem?_append_right (by rw [List.length_take]; omega), List.length_take, Nat.min_eq_left (by omega), Nat.sub_self]
  simp [hi]
 ·rw [List.getElem?_append_right (by rw [List.length_take]; omega), List.length_take, Nat.min_eq_left (by omega)]
  obtain ⟨d, rfl⟩ : ∃ d, j = i + 1 + d := ⟨j - i - 1, by omega⟩;rw [show i + 1 + d - i = d + 1 by omega, List.getElem?_cons_succ, List.getElem?_drop]
  simp [show ¬ i = i + 1 + d by omega]
theorem erase_is {l : List Item} {i : Nat} : l.eraseIdx i = l.take i ++ l.drop (i + 1) := List.eraseIdx_eq_take_drop_succ l i
theorem countIn_modify {l : List Item} {i : Nat} (hi : i < l.length) (f : Item → Item) (c : Int) : countIn (l.modify i f) c = countIn l c - (if inCls l[i] c then 1 else 0) + (if inCls (f l[i]) c then 1 else 0) := by
 have h := congrArg (countIn · c) (split_at hi);simp only [countIn_app, countIn_cons] at h;rw [modify_is hi, countIn_app, countIn_cons]; omega
theorem countIn_erase {l : List Item} {i : Nat} (hi : i < l.length) (c : Int) : countIn (l.eraseIdx i) c = countIn l c - (if inCls l[i] c then 1 else 0) := by
 have h := congrArg (countIn · c) (split_at hi);simp only [countIn_app, countIn_cons] at h;rw [erase_is, countIn_app]; omega
theorem mem_modify {l : List Item} {i : Nat} {f : Item → Item} {y : Item} (h : y ∈ l.modify i f) : (y ∈ l) ∨ ∃ hi : i < l.length, y = f l[i] := by
 obtain ⟨j, hj, rfl⟩ := List.mem_iff_getElem.1 h;rw [List.length_modify] at hj;rw [List.getElem_modify]
 split
 ·rename_i e; subst e; exact .inr ⟨hj, rfl⟩
 ·exact .inl (List.getElem_mem hj)
theorem mem_insert {l : List Item} {i : Nat} {x y : Item} (hi : i ≤ l.length) (h : y ∈ l.insertIdx i x) : y = x ∨ y ∈ l := by
 rw [insertIdx_is l i x hi, List.mem_append, List.mem_cons] at h
 rcases h with h | h | h
 ·exact .inr (List.mem_of_mem_take h)
 ·exact .inl h
 ·exact .inr (List.mem_of_mem_drop h)
theorem countIn_insert {l : List Item} {i : Nat} (x : Item) (hi : i ≤ l.length) (c : Int) : countIn (l.insertIdx i x) c = countIn l c + (if inCls x c then 1 else 0) := by
 have h := congrArg (countIn · c) (List.take_append_drop i l);simp only [countIn_app] at h;rw [insertIdx_is l i x hi, countIn_app, countIn_cons]; omega
theorem SOk.less {s : Store} (h : SOk s) {l : List Item} (hl : l.Sublist s.items) : SOk { s with items := l } :=
 ⟨h.clock, h.cas, h.uses, h.most, Nat.le_trans hl.length_le h.len, h.flash, h.h0, h.h1, h.h2, h.h3, fun x hx => itemOK_up (h.items x (hl.mem hx)) (Int.le_refl _) (Int.le_refl _) (fun _ => rfl), rising_sub hl h.rise,
  Int.le_trans (countIn_sub hl 0) h.c0, Int.le_trans (countIn_sub hl 1) h.c1, Int.le_trans (countIn_sub hl 2) h.c2, Int.le_trans (countIn_sub hl 3) h.c3, h.sum⟩
theorem SOk.turn {s : Store} (h : SOk s) (i : Nat) (f : Item → Item) (u : Int) (hu : s.uses ≤ u ∧ u ≤ maxN) (hk : ∀ x, (f x).key = x.key) (hcl : ∀ x c, inCls (f x) c = inCls x c)
  (hf : ∀ x, itemOK s x = true → itemOK { s with uses := u } (f x) = true) : SOk { s with uses := u, items := s.items.modify i f } := by
 have hu0 := h.uses
 have hc : ∀ c, countIn (s.items.modify i f) c = countIn s.items c := by
  intro c
  by_cases hi : i < s.items.length
  ·rw [countIn_modify hi, hcl]; omega
  ·have : s.items.modify i f = s.items := by
    apply List.ext_getElem?;intro j;rw [List.getElem?_modify]
    by_cases hj : i = j
    ·subst hj; rw [List.getElem?_eq_none (by omega)]; rfl
    ·simp [hj]
   rw [this]
 refine ⟨h.clock, h.cas, ⟨by show 0 ≤ u; omega, hu.2⟩, h.most, by show (s.items.modify i f).length ≤ 1000; rw [List.length_modify]; exact h.len, h.flash, h.h0, h.h1, h.h2, h.h3, fun x hx => ?_, rising_modify i f hk h.rise,
  by show countIn (s.items.modify i f) 0 ≤ _; rw [hc]; exact h.c0, by show countIn (s.items.modify i f) 1 ≤ _; rw [hc]; exact h.c1, by show countIn (s.items.modify i f) 2 ≤ _; rw [hc]; exact h.c2, by show countIn (s.items.modify i f) 3 ≤ _; rw [hc]; exact h.c3, h.sum⟩
 rcases mem_modify hx with hx | ⟨hi, rfl⟩
 ·exact itemOK_up (h.items x hx) (Int.le_refl _) hu.1 (fun _ => rfl)
 ·exact itemOK_up (hf _ (h.items _ (List.getElem_mem hi))) (Int.le_refl _) (Int.le_refl _) (fun _ => rfl)
theorem SOk.asked {s : Store} (h : SOk s) (i : Nat) (hu : s.uses < maxN) : SOk (asked s i) := by
 unfold D.asked;refine h.turn i _ _ ⟨by omega, by omega⟩ (fun _ => rfl) (fun _ _ => rfl) (fun x hx => ?_);rw [itemOK_iff] at hx ⊢;obtain ⟨a, b, c, d, e, f, g, i⟩ := hx;exact ⟨a, b, c, d, ⟨by have := h.uses; show 1 ≤ s.uses + 1; omega, Int.le_refl _⟩, f, g, i⟩
theorem SOk.timed {s : Store} (h : SOk s) (i : Nat) (n : Int) (hn : 0 ≤ n ∧ n ≤ maxN) : SOk { s with items := s.items.modify i (fun x => { x with till := n }) } := by
 refine h.turn i _ s.uses ⟨by omega, h.uses.2⟩ (fun _ => rfl) (fun _ _ => rfl) (fun x hx => ?_);rw [itemOK_iff] at hx ⊢;obtain ⟨a, b, c, d, e, f, g, i⟩ := hx;exact ⟨a, b, hn, d, e, f, g, i⟩
theorem live_le {s : Store} {k : Str} : (live s k).1 = s ∨ (live s k).1 = { s with items := s.items.eraseIdx (findKey s.items k) } := by
 unfold live;simp only
 split
 ·split
  ·split
   ·right; rfl
   ·left; rfl
  ·left; rfl
 ·left; rfl
theorem SOk.live {s : Store} (h : SOk s) (k : Str) : SOk (D.live s k).1 := by
 rcases live_le (s := s) (k := k) with e | e
 ·rw [e]; exact h
 ·rw [e]; exact h.less (List.eraseIdx_sublist _ _)
theorem live_some {s : Store} {k : Str} {i : Nat} (h : (live s k).2 = some i) : (live s k).1 = s ∧ i = findKey s.items k ∧ ∃ hi : i < s.items.length, bl s.items[i].key = k ∧ ¬ (s.items[i].till ≠ 0 ∧ s.items[i].till ≤ s.clock) := by
 unfold live at h ⊢;simp only at h ⊢
 split
 ·rename_i x hx
  rw [hx] at h;simp only at h;obtain ⟨h1, h2⟩ := List.getElem?_eq_some_iff.1 hx
  split
  ·rename_i he
   rw [if_pos he] at h
   split
   ·rename_i ht; rw [if_pos ht] at h; cases h
   ·rename_i ht
    rw [if_neg ht] at h
    cases h
    refine ⟨rfl, rfl, h1, ?_, ?_⟩
    ·rw [h2]; simpa using he
    ·rw [h2]; exact ht
  ·rename_i he; rw [if_neg he] at h; cases h
 ·rename_i hx; rw [hx] at h; cases h
theorem rd_read {f : Flash} (h : f.ok = true) (q : Place) : ((f.read q).2 = 0 ↔ ∃ v, f.rd q = some v) ∧ ∀ v, f.rd q = some v → f.read q = (v, 0) := by
 unfold Flash.read Flash.rd rdL Flash.pageOf;rw [if_neg (by rw [h]; decide)]
 cases f.pages.find? (fun p => p.number == q.page) with
 | none => simp
 | some p => simp only; cases findRec p.bytes 0 q.off <;> simp
theorem append_zero {f : Flash} {v : Str} (h : f.ok = true) (he : (f.append v).2.2.2 = 0) : Appended f (f.append v).1 v (f.append v).2.1 (f.append v).2.2.1 ∧ v.length ≤ 200 := by
 by_cases hl : 200 < v.length
 ·rw [append_long h hl] at he; simp at he
 ·by_cases hm : f.most = 0 ∨ f.next = maxN
  ·rw [append_full h hl hm] at he; simp at he
  ·obtain ⟨g, p, gone, e, ha⟩ := append_is h (s := v) (by omega) (fun x => hm (.inl x)) (fun x => hm (.inr x))
   rw [e]; exact ⟨ha, by omega⟩
theorem inCls_far (x : Item) (p : Place) (c : Int) : inCls { x with value := ByteArray.empty, far := true, place := p } c = false := rfl
theorem SOk.away {s : Store} (h : SOk s) {i : Nat} (hi : i < s.items.length) : SOk (D.away s i) ∧ (∀ c, inCls s.items[i] c = true → countIn (D.away s i).items c + 1 ≤ countIn s.items c) ∧ (∀ c, countIn (D.away s i).items c ≤ countIn s.items c) ∧
  (D.away s i).cas = s.cas ∧ (D.away s i).uses = s.uses ∧ (D.away s i).clock = s.clock ∧ (∀ c, (D.away s i).held c = s.held c) ∧ (keysOf (D.away s i).items).Sublist (keysOf s.items) := by
 unfold D.away;rw [List.getElem?_eq_getElem hi];simp only
 split
 ·rename_i hc
  obtain ⟨ha, hv⟩ := append_zero h.flash hc.2
  generalize (s.flash.append (bl s.items[i].value)).1 = g at ha
  generalize (s.flash.append (bl s.items[i].value)).2.1 = p at ha
  generalize (s.flash.append (bl s.items[i].value)).2.2.1 = gone at ha
  have hb := bl_len s.items[i].value;obtain ⟨f, hf⟩ : ∃ f : Item → Item, f = fun x => { x with value := ByteArray.empty, far := true, place := p } := ⟨_, rfl⟩
  rw [← hf];obtain ⟨l, hl⟩ : ∃ l, l = if 0 < gone then (s.items.modify i f).filter (fun y => !(y.far && y.place.page == gone)) else s.items.modify i f := ⟨_, rfl⟩;rw [← hl];have hsub : l.Sublist (s.items.modify i f) := by rw [hl]; split; exact List.filter_sublist; exact List.Sublist.refl _
  have hmem : ∀ y ∈ l, (y ∈ s.items ∨ y = f s.items[i]) ∧ (y.far = true → 0 < gone → y.place.page ≠ gone) := by
   intro y hy;refine ⟨?_, fun h1 h2 => ?_⟩
   ·rcases mem_modify (hsub.mem hy) with h1 | ⟨_, h1⟩
    ·exact .inl h1
    ·exact .inr h1
   ·rw [hl, if_pos h2, List.mem_filter] at hy
    have := hy.2;rw [h1] at this
    simpa using this
  have hk : ∀ x, (f x).key = x.key := fun x => by rw [hf]
  have hcm : ∀ c, countIn (s.items.modify i f) c = countIn s.items c - (if inCls s.items[i] c then 1 else 0) := by
   intro c;rw [countIn_modify hi, hf, inCls_far]; simp
  have hcl : ∀ c, countIn l c ≤ countIn s.items c - (if inCls s.items[i] c then 1 else 0) := fun c => by rw [← hcm]; exact countIn_sub hsub c
  have hcle : ∀ c, countIn l c ≤ countIn s.items c := fun c => by have := hcl c; split at this <;> omega
  refine ⟨?_, fun c hc => by have := hcl c; rw [hc] at this; simp only [if_true] at this; show countIn l c + 1 ≤ _; omega, hcle, rfl, rfl, rfl, fun c => rfl, ?_⟩
  ·refine ⟨h.clock, h.cas, h.uses, h.most, Nat.le_trans hsub.length_le (by rw [List.length_modify]; exact h.len), ha.ok, h.h0, h.h1, h.h2, h.h3, fun y hy => ?_, rising_sub hsub (rising_modify i f hk h.rise),
    Int.le_trans (hcle 0) h.c0, Int.le_trans (hcle 1) h.c1, Int.le_trans (hcle 2) h.c2, Int.le_trans (hcle 3) h.c3, h.sum⟩
   obtain ⟨h1, h2⟩ := hmem y hy
   rcases h1 with h1 | rfl
   ·refine itemOK_up (h.items y h1) (Int.le_refl _) (Int.le_refl _) (fun hfar => ?_)
    have hio := (itemOK_iff _ _).1 (h.items y h1);have hz := (hio.2.2.2.2.2.2.1 hfar).1;obtain ⟨v, hv'⟩ := (rd_read h.flash y.place).1.1 hz;have hpg := (place_nums hz).1;have hr := ha.rd y.place;have hne : ¬ y.place = p := fun e => by rw [e, ha.new] at hv'; cases hv'
    have hng : ¬ y.place.page = gone := by
     rcases (by omega : 0 < gone ∨ gone ≤ 0) with hg | hg
     ·exact h2 hfar hg
     ·omega
    rw [if_neg hne, if_neg hng, hv'] at hr;show g.read y.place = s.flash.read y.place;rw [(rd_read ha.ok _).2 v hr, (rd_read h.flash _).2 v hv']
   ·have hio := (itemOK_iff _ _).1 (h.items _ (List.getElem_mem hi))
    obtain ⟨a, b, c, d, e, _, _, _⟩ := hio;have hr := ha.rd p;rw [if_pos rfl] at hr;rw [itemOK_iff, hf];refine ⟨a, b, c, d, e, by show ByteArray.empty.size ≤ 200; decide, fun _ => ?_, fun x => by cases x⟩;show (g.read p).2 = 0 ∧ ByteArray.empty.size = 0 ∧ 24 ≤ (g.read p).1.length;rw [(rd_read ha.ok _).2 _ hr];exact ⟨rfl, rfl, by show 24 ≤ (bl s.items[i].value).length; omega⟩
  ·have := hsub.map (fun x : Item => bl x.key)
   show (keysOf l).Sublist _;rw [← keysOf_modify s.items i f hk]; exact this
 ·refine ⟨h.less (List.eraseIdx_sublist _ _), fun c hc => ?_, fun c => countIn_sub (List.eraseIdx_sublist _ _) c, rfl, rfl, rfl, fun c => rfl, (List.eraseIdx_sublist _ _).map _⟩
  show countIn (s.items.eraseIdx i) c + 1 ≤ _;rw [countIn_erase hi, hc]; simp only [if_true]; omega
theorem oldest_in {l : List Item} {c : Int} : ∀ {k : Nat}, 0 ≤ lastTo l c k → ∃ hi : (lastTo l c k).toNat < l.length, inCls l[(lastTo l c k).toNat] c = true
 | 0, h => by simp [lastTo] at h
 | k + 1, h => by
  by_cases hk : k < l.length
  ·by_cases hx : inCls l[k] c = true
   ·rcases (by omega : lastTo l c k < 0 ∨ 0 ≤ lastTo l c k) with h0 | h0
    ·rw [lastTo_first hk hx h0]; exact ⟨by simpa using hk, by simpa using hx⟩
    ·obtain ⟨hi, hc⟩ := oldest_in (k := k) h0
     by_cases hu : l[k].used < l[(lastTo l c k).toNat].used
     ·rw [lastTo_less hk hx (m := (lastTo l c k).toNat) (by omega) hi hu]; exact ⟨by simpa using hk, by simpa using hx⟩
     ·have e : lastTo l c (k + 1) = lastTo l c k := (lastTo_more hk hx (m := (lastTo l c k).toNat) (by omega) hi hu).trans (by omega)
      rw [e]; exact ⟨hi, hc⟩
   ·have hx' : inCls l[k] c = false := by simpa using hx
    rw [lastTo_skip hk hx'] at h ⊢;exact oldest_in h
  ·have e : lastTo l c (k + 1) = lastTo l c k := by rw [lastTo, List.getElem?_eq_none (by omega)]
   rw [e] at h ⊢;exact oldest_in h
theorem SOk.room {s : Store} (h : SOk s) {c : Int} (hc : 0 ≤ c ∧ c ≤ 3) : SOk (D.room s c).1 ∧ ((D.room s c).2 = true → countIn (D.room s c).1.items c < (D.room s c).1.held c * per c ∧ (D.room s c).1.items.length < 1000) ∧
  (D.room s c).1.cas = s.cas ∧ (D.room s c).1.uses = s.uses ∧ (D.room s c).1.clock = s.clock ∧ (keysOf (D.room s c).1.items).Sublist (keysOf s.items) := by
 have hcle : ∀ c, 0 ≤ c ∧ c ≤ 3 → countIn s.items c ≤ s.held c * per c := by
  intro c hc;have : c = 0 ∨ c = 1 ∨ c = 2 ∨ c = 3 := by omega
  have := h.c0; have := h.c1; have := h.c2; have := h.c3
  rcases ‹c = 0 ∨ c = 1 ∨ c = 2 ∨ c = 3› with rfl | rfl | rfl | rfl <;> simp [Store.held, per] <;> omega
 unfold D.room
 split
 ·rename_i h1
  exact ⟨h, fun h2 => ⟨h1, by simpa using h2⟩, rfl, rfl, rfl, List.Sublist.refl _⟩
 ·split
  ·rename_i h1 h2
   have b0 := h.h0; have b1 := h.h1; have b2 := h.h2; have b3 := h.h3;have c0 := h.c0; have c1 := h.c1; have c2 := h.c2; have c3 := h.c3;have hx := hcle c hc;have : c = 0 ∨ c = 1 ∨ c = 2 ∨ c = 3 := by omega
   rcases this with rfl | rfl | rfl | rfl
   all_goals
    refine ⟨⟨h.clock, h.cas, h.uses, h.most, h.len, h.flash, ?_, ?_, ?_, ?_, fun x hx => itemOK_up (h.items x hx) (Int.le_refl _) (Int.le_refl _) (fun _ => rfl), h.rise, ?_, ?_, ?_, ?_, ?_⟩, fun h4 => ⟨?_, (of_decide_eq_true h4 : s.items.length < 1000)⟩, rfl, rfl, rfl, List.Sublist.refl _⟩
    all_goals simp [addHeld, Store.held, per] at hx ⊢
    all_goals omega
  ·split
   ·rename_i h1 h2 h3
    obtain ⟨hi, hcl⟩ := oldest_in h3;obtain ⟨g1, g2, _, g3, g4, g5, g6, g7⟩ := h.away hi;refine ⟨g1, fun h4 => ⟨?_, by simpa using h4⟩, g3, g4, g5, g7⟩;have := g2 c hcl;have := hcle c hc;show countIn (D.away s (lastTo s.items c s.items.length).toNat).items c < (D.away s (lastTo s.items c s.items.length).toNat).held c * per c;rw [g6]; omega
   ·exact ⟨h, fun h4 => absurd h4 (by simp), rfl, rfl, rfl, List.Sublist.refl _⟩
theorem hasKey_mem {l : List Item} {k : Str} (h : hasKey l k = true) : k ∈ keysOf l := by
 obtain ⟨hi, he⟩ := hasKey_iff.1 h;rw [← he]; exact List.mem_map.2 ⟨_, List.getElem_mem hi, rfl⟩
theorem SOk.without {s : Store} (h : SOk s) (k : Str) : SOk (D.without s k) ∧ k ∉ keysOf (D.without s k).items ∧ (D.without s k).cas = s.cas ∧ (D.without s k).uses = s.uses ∧ (D.without s k).clock = s.clock := by
 unfold D.without
 split
 ·rename_i hh
  obtain ⟨hi, he⟩ := hasKey_iff.1 hh;refine ⟨h.less (List.eraseIdx_sublist _ _), fun hm => ?_, rfl, rfl, rfl⟩;obtain ⟨y, hy, hky⟩ := List.mem_map.1 hm;rw [erase_is, List.mem_append] at hy
  rcases hy with hy | hy
  ·obtain ⟨j, hj, rfl⟩ := List.mem_iff_getElem.1 hy
   rw [List.getElem_take] at hky;have hj' : j < findKey s.items k := by rw [List.length_take] at hj; omega
   have := findKey_below (by omega) hj';rw [hky, less_irrefl] at this; cases this
  ·obtain ⟨j, hj, rfl⟩ := List.mem_iff_getElem.1 hy
   rw [List.getElem_drop] at hky;rw [List.length_drop] at hj;have := rising_get h.rise (i := findKey s.items k) (j := findKey s.items k + 1 + j) (by omega) (by omega);rw [hky, he, less_irrefl] at this; cases this
 ·rename_i hh
  refine ⟨h, fun hm => hh ?_, rfl, rfl, rfl⟩;obtain ⟨y, hy, hky⟩ := List.mem_map.1 hm;obtain ⟨j, hj, rfl⟩ := List.mem_iff_getElem.1 hy;have e := has_mem h.rise hj hky;exact hasKey_iff.2 ⟨by omega, by simp only [e]; exact hky⟩
structure MayPut (x : Item) : Prop where
 key : keyOK x.key = true
 flags : 0 ≤ x.flags ∧ x.flags ≤ 65535
 till : 0 ≤ x.till ∧ x.till ≤ maxN
 value : x.value.size ≤ 200
 near : x.far = false
 place : x.place = ⟨0, 0⟩
theorem keyOK_len {s : ByteArray} (h : keyOK s = true) : 1 ≤ s.size ∧ s.size ≤ 20 := by
 unfold keyOK keyL at h;simp only [Bool.and_eq_true, decide_eq_true_eq] at h;have := bl_len s;omega
theorem MayPut.cls {x : Item} (h : MayPut x) : 0 ≤ x.cls ∧ x.cls ≤ 3 := by
 have := keyOK_len h.key;have := h.value;exact classOf_range (by omega)
theorem SOk.with1 {s : Store} (h : SOk s) {x : Item} (hx : MayPut x) (hk : bl x.key ∉ keysOf s.items) (hc : s.cas < maxN) (hu : s.uses < maxN) (hr : countIn s.items x.cls < s.held x.cls * per x.cls) (hl : s.items.length < 1000) : SOk (D.with1 s x) := by
 have hno : hasKey s.items (bl x.key) = false := by
  cases h1 : hasKey s.items (bl x.key) with
  | false => rfl
  | true => exact absurd (hasKey_mem h1) hk
 have hle := findKey_le s.items (bl x.key);have hcls := hx.cls;unfold D.with1;have hcas := h.cas; have huses := h.uses;obtain ⟨y, hy⟩ : ∃ y : Item, y = { x with cas := s.cas + 1, used := s.uses + 1 } := ⟨_, rfl⟩;have hyk : y.key = x.key := by rw [hy]
 have hycls : ∀ c, inCls y c = (x.cls == c) := fun c => by rw [hy]; show (!x.far && x.cls == c) = _; rw [hx.near]; rfl
 rw [← hy]
 have hcnt : ∀ c, countIn (s.items.insertIdx (findKey s.items (bl x.key)) y) c = countIn s.items c + (if x.cls = c then 1 else 0) := by
  intro c;rw [countIn_insert y hle, hycls]
  by_cases e : x.cls = c <;> simp [e]
 have hri : rising (s.items.insertIdx (findKey s.items (bl x.key)) y) = true := by rw [← hyk] at hno ⊢; exact rising_insert h.rise hno
 refine ⟨h.clock, ⟨by show 0 ≤ s.cas + 1; omega, by show s.cas + 1 ≤ maxN; omega⟩, ⟨by show 0 ≤ s.uses + 1; omega, by show s.uses + 1 ≤ maxN; omega⟩, h.most, ?_, h.flash, h.h0, h.h1, h.h2, h.h3, fun z hz => ?_, hri, ?_, ?_, ?_, ?_, h.sum⟩
 ·show (s.items.insertIdx _ y).length ≤ 1000
  rw [List.length_insertIdx]; split <;> omega
 ·rcases mem_insert hle hz with rfl | hz
  ·rw [itemOK_iff, hy]
   refine ⟨hx.key, hx.flags, hx.till, ⟨by show 1 ≤ s.cas + 1; omega, Int.le_refl _⟩, ⟨by show 1 ≤ s.uses + 1; omega, Int.le_refl _⟩, hx.value, fun hf => ?_, fun _ => hx.place⟩;have : x.far = true := hf;rw [hx.near] at this; cases this
  ·exact itemOK_up (h.items z hz) (by show s.cas ≤ s.cas + 1; omega) (by show s.uses ≤ s.uses + 1; omega) (fun _ => rfl)
 all_goals
  show countIn (s.items.insertIdx _ y) _ ≤ _;rw [hcnt];have c0 := h.c0; have c1 := h.c1; have c2 := h.c2; have c3 := h.c3
  split
  ·rename_i e; rw [e] at hr; simp [Store.held, per] at hr; dsimp only; omega
  ·dsimp only; omega
theorem SOk.put {s : Store} (h : SOk s) {x : Item} (hx : MayPut x) (hu : s.uses < maxN) : SOk (D.put s x).1 ∧ (D.put s x).1.uses ≤ s.uses + 1 := by
 obtain ⟨g1, g2, g3, g4, g5⟩ := h.without (bl x.key);obtain ⟨r1, r2, r3, r4, r5, r6⟩ := g1.room hx.cls;unfold D.put;simp only
 split
 ·exact ⟨g1, by show (D.without s (bl x.key)).uses ≤ _; omega⟩
 ·rename_i hm
  have hc1 := g1.cas
  split
  ·rename_i hr
   obtain ⟨q1, q2⟩ := r2 hr;exact ⟨r1.with1 hx (fun hm' => g2 (r6.mem hm')) (by rw [r3]; omega) (by omega) q1 q2, by show (D.room _ _).1.uses + 1 ≤ _; omega⟩
  ·exact ⟨r1, by show (D.room _ _).1.uses ≤ _; omega⟩
structure Req where
 kind : Int
 key : ByteArray
 keys : List ByteArray
 flags : Int
 exp : Int
 n : Int
 value : ByteArray
 quiet : Bool
def Req.f0 (r : Req) : Bool := if r.kind = 1 then decide (1 ≤ r.keys.length ∧ r.keys.length ≤ 10) && r.keys.all keyOK else decide (r.keys.length = 0)
def Req.f1 (r : Req) : Bool := if 2 ≤ r.kind ∧ r.kind ≤ 11 then keyOK r.key else decide (r.key.size = 0)
def Req.f2 (r : Req) : Bool := decide (2 ≤ r.kind ∧ r.kind ≤ 7) || (decide (r.flags = 0 ∧ r.value.size = 0) && (decide (r.kind = 11) || decide (r.exp = 0)))
def Req.f3 (r : Req) : Bool := decide (r.kind = 7 ∨ r.kind = 9 ∨ r.kind = 10) || decide (r.n = 0)
def Req.f4 (r : Req) : Bool := !r.quiet || !decide (r.kind = 1 ∨ r.kind = 13)
def Req.form (r : Req) : Bool := r.f0 && (r.f1 && (r.f2 && (r.f3 && r.f4)))
def Req.range (r : Req) : Bool := decide (0 ≤ r.flags ∧ r.flags ≤ 65535 ∧ 0 ≤ r.exp ∧ r.exp ≤ 1099511627776 ∧ 0 ≤ r.n ∧ r.n ≤ 1099511627776)
def Req.fault (r : Req) : Int :=
 if 1 ≤ r.kind ∧ r.kind ≤ 13 then (if r.form then (if r.range then (if 200 < r.value.size then 1 else 0) else 2) else 4) else 3
theorem fault_kind {r : Req} (h : ¬ (1 ≤ r.kind ∧ r.kind ≤ 13)) : r.fault = 3 := by unfold Req.fault; rw [if_neg h]
theorem fault_form {r : Req} (h : 1 ≤ r.kind ∧ r.kind ≤ 13) (h1 : r.form = false) : r.fault = 4 := by unfold Req.fault; rw [if_pos h, h1]; rfl
theorem fault_range {r : Req} (h : 1 ≤ r.kind ∧ r.kind ≤ 13) (h1 : r.form = true) (h2 : r.range = false) : r.fault = 2 := by unfold Req.fault; rw [if_pos h, h1, h2]; rfl
theorem fault_size {r : Req} (h : 1 ≤ r.kind ∧ r.kind ≤ 13) (h1 : r.form = true) (h2 : r.range = true) (h3 : 200 < r.value.size) : r.fault = 1 := by unfold Req.fault; rw [if_pos h, h1, h2, if_pos rfl, if_pos rfl, if_pos h3]
theorem fault_none {r : Req} (h : 1 ≤ r.kind ∧ r.kind ≤ 13) (h1 : r.form = true) (h2 : r.range = true) (h3 : ¬ 200 < r.value.size) : r.fault = 0 := by unfold Req.fault; rw [if_pos h, h1, h2, if_pos rfl, if_pos rfl, if_neg h3]
theorem form_0 {r : Req} (h : r.f0 = false) : r.form = false := by unfold Req.form; rw [h]; rfl
theorem form_1 {r : Req} (h : r.f1 = false) : r.form = false := by unfold Req.form; rw [h, Bool.false_and, Bool.and_false]
theorem form_2 {r : Req} (h : r.f2 = false) : r.form = false := by unfold Req.form; rw [h, Bool.false_and, Bool.and_false, Bool.and_false]
theorem form_3 {r : Req} (h : r.f3 = false) : r.form = false := by unfold Req.form; rw [h, Bool.false_and, Bool.and_false, Bool.and_false, Bool.and_false]
theorem form_4 {r : Req} (h : r.f4 = false) : r.form = false := by unfold Req.form; rw [h, Bool.and_false, Bool.and_false, Bool.and_false, Bool.and_false]
theorem form_all {r : Req} (h0 : r.f0 = true) (h1 : r.f1 = true) (h2 : r.f2 = true) (h3 : r.f3 = true) (h4 : r.f4 = true) : r.form = true := by unfold Req.form; rw [h0, h1, h2, h3, h4]; rfl
def Req.sw (r : Req) (mk : ByteArray) (ml : Nat) (mq : Bool) : Prop :=
 (r.kind = 1 ∧ r.f0 = true ∧ mk = ⟨#[]⟩ ∧ ml = r.keys.length ∧ mq = false) ∨ (2 ≤ r.kind ∧ r.kind ≤ 11 ∧ r.f1 = true ∧ mk = r.key ∧ ml = 0 ∧ mq = r.quiet) ∨
 (r.kind = 12 ∧ mk = ⟨#[]⟩ ∧ ml = 0 ∧ mq = r.quiet) ∨ (r.kind = 13 ∧ mk = ⟨#[]⟩ ∧ ml = 0 ∧ mq = false)
def Req.st (r : Req) (mf me : Int) (mv : ByteArray) : Prop :=
 (2 ≤ r.kind ∧ r.kind ≤ 7 ∧ mf = r.flags ∧ me = r.exp ∧ mv = r.value) ∨ (¬ (2 ≤ r.kind ∧ r.kind ≤ 7) ∧ mf = 0 ∧ (r.kind = 11 ∧ me = r.exp ∨ r.kind ≠ 11 ∧ me = 0) ∧ mv = ⟨#[]⟩)
def Req.sn (r : Req) (mn : Int) : Prop := ((r.kind = 7 ∨ r.kind = 9 ∨ r.kind = 10) ∧ mn = r.n) ∨ (¬ (r.kind = 7 ∨ r.kind = 9 ∨ r.kind = 10) ∧ mn = 0)
theorem empty_iff (s : ByteArray) : (⟨#[]⟩ : ByteArray) = s ↔ s.size = 0 := by
 constructor
 ·rintro rfl; rfl
 ·intro h
  cases s with
  | mk d => exact congrArg ByteArray.mk (Array.eq_empty_of_size_eq_zero h).symm
theorem sw_0 {r : Req} {mk : ByteArray} {ml : Nat} {mq : Bool} (h : r.sw mk ml mq) : ml = r.keys.length ↔ r.f0 = true := by
 unfold Req.f0
 rcases h with ⟨h, h1, _, rfl, _⟩ | ⟨h, h', _, _, rfl, _⟩ | ⟨h, _, rfl, _⟩ | ⟨h, _, rfl, _⟩
 ·unfold Req.f0 at h1; exact ⟨fun _ => h1, fun _ => rfl⟩
 all_goals (rw [if_neg (by omega), decide_eq_true_eq]; omega)
theorem sw_1 {r : Req} {mk : ByteArray} {ml : Nat} {mq : Bool} (h : r.sw mk ml mq) : mk = r.key ↔ r.f1 = true := by
 unfold Req.f1
 rcases h with ⟨h, _, rfl, _, _⟩ | ⟨h, h', h1, rfl, _, _⟩ | ⟨h, rfl, _, _⟩ | ⟨h, rfl, _, _⟩
 ·rw [if_neg (by omega), decide_eq_true_eq]; exact empty_iff _
 ·unfold Req.f1 at h1; exact ⟨fun _ => h1, fun _ => rfl⟩
 all_goals (rw [if_neg (by omega), decide_eq_true_eq]; exact empty_iff _)
theorem sw_4 {r : Req} {mk : ByteArray} {ml : Nat} {mq : Bool} (h : r.sw mk ml mq) : mq = r.quiet ↔ r.f4 = true := by
 unfold Req.f4
 rcases h with ⟨h, _, _, _, rfl⟩ | ⟨h, h', _, _, _, rfl⟩ | ⟨h, _, _, rfl⟩ | ⟨h, _, _, rfl⟩
 ·rw [decide_eq_true (show r.kind = 1 ∨ r.kind = 13 by omega)]; cases r.quiet <;> simp
 ·rw [decide_eq_false (show ¬ (r.kind = 1 ∨ r.kind = 13) by omega)]; simp
 ·rw [decide_eq_false (show ¬ (r.kind = 1 ∨ r.kind = 13) by omega)]; simp
 ·rw [decide_eq_true (show r.kind = 1 ∨ r.kind = 13 by omega)]; cases r.quiet <;> simp
theorem st_2 {r : Req} {mf me : Int} {mv : ByteArray} (h : r.st mf me mv) : (mf = r.flags ∧ me = r.exp ∧ mv = r.value) ↔ r.f2 = true := by
 unfold Req.f2
 rcases h with ⟨h, h', rfl, rfl, rfl⟩ | ⟨h, rfl, h1, rfl⟩
 ·rw [decide_eq_true ⟨h, h'⟩]; simp
 ·rw [decide_eq_false h, Bool.false_or, Bool.and_eq_true, decide_eq_true_eq, Bool.or_eq_true, decide_eq_true_eq, decide_eq_true_eq, empty_iff]
  rcases h1 with ⟨h1, rfl⟩ | ⟨h1, rfl⟩
  ·exact ⟨fun ⟨a, _, c⟩ => ⟨⟨a.symm, c⟩, .inl h1⟩, fun ⟨⟨a, c⟩, _⟩ => ⟨a.symm, rfl, c⟩⟩
  ·exact ⟨fun ⟨a, b, c⟩ => ⟨⟨a.symm, c⟩, .inr b.symm⟩, fun ⟨⟨a, c⟩, b⟩ => ⟨a.symm, (b.resolve_left h1).symm, c⟩⟩
theorem sn_3 {r : Req} {mn : Int} (h : r.sn mn) : mn = r.n ↔ r.f3 = true := by
 unfold Req.f3
 rcases h with ⟨h, rfl⟩ | ⟨h, rfl⟩
 ·rw [decide_eq_true h]; simp
 ·rw [decide_eq_false h, Bool.false_or, decide_eq_true_eq]; exact eq_comm
open Go
def decL (n : Int) : Str := Lib.itoa n
def decS (n : Int) : ByteArray := ⟨(decL n).toArray⟩
theorem mk_append (a b : Str) : (⟨(a ++ b).toArray⟩ : ByteArray) = ⟨a.toArray⟩ ++ ⟨b.toArray⟩ := by
 apply ByteArray.ext
 simp
theorem decD_step {u : Nat} (h : ¬ u < 10) : Lib.decDigits u = Lib.decDigits (u / 10) ++ Lib.decDigits (u % 10) := by
 rw [Lib.decDigits.eq_1 u, dif_neg h, Lib.decDigits_one (Nat.mod_lt _ (by decide))]
theorem dec_digit {n : Int} (h0 : 0 ≤ n) (h1 : n < 10) : decL n = [UInt8.ofNat (48 + n.toNat)] := by
 unfold decL Lib.itoa;rw [if_neg (by omega), Lib.decDigits_one (by omega)]
theorem dec_pos {n : Int} (h : 10 ≤ n) : decS n = decS (n / 10) ++ decS (n % 10) := by
 unfold decS;rw [← mk_append];unfold decL Lib.itoa;rw [if_neg (by omega), if_neg (by omega), if_neg (by omega), decD_step (by omega)];rw [show (n / 10).toNat = n.toNat / 10 by omega, show (n % 10).toNat = n.toNat % 10 by omega]
theorem dec_minus {n : Int} (h0 : -10 < n) (h1 : n < 0) : decS n = ⟨#[45]⟩ ++ decS (-n) := by
 unfold decS;have : (⟨#[45]⟩ : ByteArray) = ⟨([45] : Str).toArray⟩ := rfl;rw [this, ← mk_append];unfold decL Lib.itoa;rw [if_pos h1, if_neg (by omega), show (-n).toNat = n.natAbs by omega]
 rfl
theorem dec_neg {n q r : Int} (h : n ≤ -10) (hq : n = 10 * q + r) (hr : -10 < r) (hr0 : r ≤ 0) (hq0 : q < 0) : decS n = decS q ++ decS (-r) := by
 unfold decS;rw [← mk_append];unfold decL Lib.itoa;rw [if_pos (by omega), if_pos hq0, if_neg (by omega), decD_step (by omega)];rw [show n.natAbs / 10 = q.natAbs by omega, show n.natAbs % 10 = (-r).toNat by omega]
 rfl
theorem decS_size (n : Int) : (decS n).size = (decL n).length := by simp [decS, ByteArray.size]
theorem decL_le {n : Int} (h0 : -9223372036854775808 ≤ n) (h1 : n ≤ 9223372036854775807) : (decL n).length ≤ 21 := Lib.itoa_length_le n h0 h1
structure Hit where
 key : ByteArray
 flags : Int
 cas : Int
 value : ByteArray
structure Reply where
 kind : Int
 n : Int
 hits : List Hit
def Reply.zero : Reply := ⟨0, 0, []⟩
def HitB (h : Hit) : Prop := -9223372036854775808 ≤ h.flags ∧ h.flags ≤ 9223372036854775807 ∧ -9223372036854775808 ≤ h.cas ∧ h.cas ≤ 9223372036854775807
open Go
def numOf (v : ByteArray) : Int := match Lib.atoiAll (bl v) with
 | .ok n => if 0 ≤ n ∧ n ≤ maxN ∧ decS n = v then n else -1
 | _ => -1
def got1 (a : Store × List Hit) (k : ByteArray) : Store × List Hit :=
 match (live a.1 (bl k)).2 with
 | none => ((live a.1 (bl k)).1, a.2)
 | some i => match a.1.items[i]? with
  | none => a
  | some x => (asked a.1 i, a.2 ++ [⟨k, x.flags, x.cas, valueOf a.1 x⟩])
def got (s : Store) (ks : List ByteArray) : Store × List Hit := ks.foldl got1 (s, [])
def told (k : Int) : Reply := ⟨k, 0, []⟩
def stored (s : Store) (x : Item) : Store × Reply := ((put s x).1, if (put s x).2 then told 2 else told 11)
def newItem (s : Store) (r : Req) : Item := ⟨r.key, r.flags, untilOf s r.exp, 0, 0, r.value, false, ⟨0, 0⟩⟩
def grownItem (s : Store) (r : Req) (x : Item) : Item :=
 ⟨r.key, x.flags, x.till, 0, 0, if r.kind = 6 then r.value ++ valueOf s x else valueOf s x ++ r.value, false, ⟨0, 0⟩⟩
def setReq (s : Store) (r : Req) : Store × Reply :=
 let s1 := (live s (bl r.key)).1
 let o := ((live s (bl r.key)).2).bind (fun i => s1.items[i]?)
 if r.kind = 3 then (match o with | some _ => (s1, told 3) | none => stored s1 (newItem s1 r))
 else if r.kind = 4 then (match o with | some _ => stored s1 (newItem s1 r) | none => (s1, told 3))
 else if r.kind = 5 ∨ r.kind = 6 then (match o with | some x => if 200 < (grownItem s1 r x).value.size then (s1, told 11) else stored s1 (grownItem s1 r x) | none => (s1, told 3))
 else if r.kind = 7 then (match o with | some x => if x.cas ≠ r.n then (s1, told 4) else stored s1 (newItem s1 r) | none => (s1, told 5))
 else stored s1 (newItem s1 r)
def counted (r : Req) (n : Int) : Int := if r.kind = 9 then min (n + r.n) maxN else max (n - r.n) 0
def countReq (s : Store) (r : Req) : Store × Reply :=
 let s1 := (live s (bl r.key)).1
 match ((live s (bl r.key)).2).bind (fun i => s1.items[i]?) with
 | none => (s1, told 5)
 | some x =>
  let n := numOf (valueOf s1 x)
  if n < 0 then (s1, told 12) else
  let y : Item := { x with value := decS (counted r n), far := false, place := ⟨0, 0⟩ }
  ((put s1 y).1, if (put s1 y).2 then ⟨7, counted r n, []⟩ else told 11)
def goneReq (s : Store) (r : Req) : Store × Reply :=
 let s1 := (live s (bl r.key)).1
 match (live s (bl r.key)).2 with
 | none => (s1, told 5)
 | some i =>
  if r.kind = 11 then
   let s2 := asked s1 i
   ({ s2 with items := s2.items.modify i (fun x => { x with till := untilOf s2 r.exp }) }, told 8)
  else ({ s1 with items := s1.items.eraseIdx i }, told 6)
def doReq (s : Store) (r : Req) : Store × Reply :=
 if r.kind = 1 then ((got s r.keys).1, ⟨1, 0, (got s r.keys).2⟩)
 else if r.kind = 9 ∨ r.kind = 10 then countReq s r
 else if r.kind = 12 then ({ s with items := [], flash := { s.flash with pages := [] } }, told 9)
 else if r.kind = 13 then (s, told 10)
 else if r.kind = 8 ∨ r.kind = 11 then goneReq s r
 else setReq s r
def doOf (s : Store) (r : Req) : Store × Reply × Int :=
 if s.ok = false then (Store.zero, Reply.zero, 8)
 else if r.fault ≠ 0 then (Store.zero, Reply.zero, r.fault)
 else if 1099511627766 < s.uses then (Store.zero, Reply.zero, 2)
 else ((doReq s r).1, (doReq s r).2, 0)
theorem fault_zero {r : Req} (h : r.fault = 0) : (1 ≤ r.kind ∧ r.kind ≤ 13) ∧ r.form = true ∧ r.range = true ∧ r.value.size ≤ 200 := by
 unfold Req.fault at h
 split at h
 ·rename_i h1
  split at h
  ·rename_i h2
   split at h
   ·rename_i h3
    split at h
    ·cases h
    ·rename_i h4; exact ⟨h1, h2, h3, by omega⟩
   ·cases h
  ·cases h
 ·cases h
structure ROk (r : Req) : Prop where
 kind : 1 ≤ r.kind ∧ r.kind ≤ 13
 keys : r.kind = 1 → (1 ≤ r.keys.length ∧ r.keys.length ≤ 10) ∧ ∀ k ∈ r.keys, keyOK k = true
 nokeys : r.kind ≠ 1 → r.keys = []
 key : 2 ≤ r.kind → r.kind ≤ 11 → keyOK r.key = true
 flags : 0 ≤ r.flags ∧ r.flags ≤ 65535
 exp : 0 ≤ r.exp ∧ r.exp ≤ maxN
 n : 0 ≤ r.n ∧ r.n ≤ maxN
 value : r.value.size ≤ 200
theorem rok {r : Req} (h : r.fault = 0) : ROk r := by
 obtain ⟨h1, h2, h3, h4⟩ := fault_zero h;unfold Req.form at h2;unfold Req.range at h3;simp only [Bool.and_eq_true, decide_eq_true_eq] at h2 h3;obtain ⟨f0, f1, _⟩ := h2;have hN : maxN = 1099511627776 := rfl;refine ⟨h1, fun hk => ?_, fun hk => ?_, fun a b => ?_, by omega, by omega, by omega, h4⟩
 ·unfold Req.f0 at f0
  rw [if_pos hk, Bool.and_eq_true, decide_eq_true_eq] at f0;exact ⟨f0.1, fun k hk => List.all_eq_true.1 f0.2 k hk⟩
 ·unfold Req.f0 at f0
  rw [if_neg hk, decide_eq_true_eq] at f0;exact List.eq_nil_of_length_eq_zero f0
 ·unfold Req.f1 at f1
  rw [if_pos ⟨a, b⟩] at f1;exact f1
theorem untilOf_in {s : Store} {e : Int} (h : SOk s) (he : 0 ≤ e) : 0 ≤ untilOf s e ∧ untilOf s e ≤ maxN := by
 have := h.clock;have hN : maxN = 1099511627776 := rfl;unfold untilOf
 split <;> omega
theorem may_new {s : Store} {r : Req} (h : SOk s) (hr : ROk r) (h2 : 2 ≤ r.kind) (h3 : r.kind ≤ 11) : MayPut (newItem s r) :=
 ⟨hr.key h2 h3, hr.flags, untilOf_in h hr.exp.1, hr.value, rfl, rfl⟩
theorem may_grown {s : Store} {r : Req} {x : Item} (hx : itemOK s x = true) (hr : ROk r) (h2 : 2 ≤ r.kind) (h3 : r.kind ≤ 11) (hl : ¬ 200 < (grownItem s r x).value.size) : MayPut (grownItem s r x) := by
 have hi := (itemOK_iff _ _).1 hx;exact ⟨hr.key h2 h3, hi.2.1, hi.2.2.1, by omega, rfl, rfl⟩
theorem decS_small {n : Int} (h : 0 ≤ n ∧ n ≤ maxN) : (decS n).size ≤ 21 := by
 have hN : maxN = 1099511627776 := rfl;rw [decS_size]; exact decL_le (by omega) (by omega)
theorem counted_in {r : Req} {n : Int} (hr : ROk r) (hn : 0 ≤ n ∧ n ≤ maxN) : 0 ≤ counted r n ∧ counted r n ≤ maxN := by
 have := hr.n;have hN : maxN = 1099511627776 := rfl;unfold counted
 split <;> omega
theorem numOf_in (v : ByteArray) (h : ¬ numOf v < 0) : (0 ≤ numOf v ∧ numOf v ≤ maxN) ∧ decS (numOf v) = v := by
 unfold numOf at h ⊢
 split
 ·rename_i n hn
  rw [hn] at h;simp only at h
  split
  ·rename_i h1; exact ⟨⟨h1.1, h1.2.1⟩, h1.2.2⟩
  ·rename_i h1; rw [if_neg h1] at h; omega
 ·rename_i hn
  split at h
  ·rename_i n hn'; exact absurd hn' (hn n)
  ·omega
theorem may_count {s : Store} {x : Item} {n : Int} (hx : itemOK s x = true) (hn : 0 ≤ n ∧ n ≤ maxN) : MayPut { x with value := decS n, far := false, place := ⟨0, 0⟩ } := by
 have hi := (itemOK_iff _ _).1 hx;exact ⟨hi.1, hi.2.1, hi.2.2.1, by have := decS_small hn; show (decS n).size ≤ 200; omega, rfl, rfl⟩
theorem got1_ok {a : Store × List Hit} (k : ByteArray) (h : SOk a.1) (hu : a.1.uses < maxN) : SOk (got1 a k).1 ∧ (got1 a k).1.uses ≤ a.1.uses + 1 := by
 have hl := h.live (bl k);have hlu : (live a.1 (bl k)).1.uses = a.1.uses := by rcases live_le (s := a.1) (k := bl k) with e | e <;> rw [e]
 unfold got1
 split
 ·exact ⟨hl, by show (live a.1 (bl k)).1.uses ≤ _; omega⟩
 ·split
  ·exact ⟨h, by omega⟩
  ·exact ⟨h.asked _ hu, Int.le_refl _⟩
theorem got_ok {ks : List ByteArray} : ∀ {a : Store × List Hit}, SOk a.1 → a.1.uses + ks.length ≤ maxN → SOk (ks.foldl got1 a).1 ∧ (ks.foldl got1 a).1.uses ≤ a.1.uses + ks.length := by
 induction ks with
 | nil => intro a h _; exact ⟨h, by simp⟩
 | cons k ks ih =>
  intro a h hu;rw [List.length_cons] at hu;obtain ⟨h1, h2⟩ := got1_ok k h (by omega);obtain ⟨h3, h4⟩ := ih h1 (by omega);rw [List.foldl_cons, List.length_cons];exact ⟨h3, by omega⟩
theorem stored_ok {s : Store} {x : Item} (h : SOk s) (hx : MayPut x) (hu : s.uses < maxN) : SOk (stored s x).1 ∧ (stored s x).1.uses ≤ s.uses + 1 := h.put hx hu
theorem live_uses (s : Store) (k : Str) : (live s k).1.uses = s.uses ∧ (live s k).1.clock = s.clock ∧ (live s k).1.cas = s.cas := by
 rcases live_le (s := s) (k := k) with e | e <;> rw [e] <;> exact ⟨rfl, rfl, rfl⟩
theorem bind_some {s : Store} {o : Option Nat} {x : Item} (h : (o.bind fun i => s.items[i]?) = some x) : ∃ i, o = some i ∧ ∃ hi : i < s.items.length, s.items[i] = x := by
 cases o with
 | none => cases h
 | some i => exact ⟨i, rfl, List.getElem?_eq_some_iff.1 h⟩
theorem setReq_ok {s : Store} {r : Req} (h : SOk s) (hr : ROk r) (h2 : 2 ≤ r.kind) (h3 : r.kind ≤ 11) (hu : s.uses < maxN) : SOk (setReq s r).1 ∧ (setReq s r).1.uses ≤ s.uses + 1 := by
 have hl := h.live (bl r.key);have hlu := (live_uses s (bl r.key)).1;have hst := stored_ok hl (may_new hl hr h2 h3) (by omega);rw [hlu] at hst;have hno : SOk (live s (bl r.key)).1 ∧ (live s (bl r.key)).1.uses ≤ s.uses + 1 := ⟨hl, by omega⟩;unfold setReq;simp only
 split
 ·split
  ·exact hno
  ·exact hst
 ·split
  ·split
   ·exact hst
   ·exact hno
  ·split
   ·split
    ·rename_i x hx
     obtain ⟨i, _, hi, rfl⟩ := bind_some hx
     split
     ·exact hno
     ·rename_i hsz
      have := stored_ok hl (may_grown (hl.items _ (List.getElem_mem hi)) hr h2 h3 hsz) (by omega);rw [hlu] at this; exact this
    ·exact hno
   ·split
    ·split
     ·split
      ·exact hno
      ·exact hst
     ·exact hno
    ·exact hst
theorem countReq_ok {s : Store} {r : Req} (h : SOk s) (hr : ROk r) (hu : s.uses < maxN) : SOk (countReq s r).1 ∧ (countReq s r).1.uses ≤ s.uses + 1 := by
 have hl := h.live (bl r.key);have hlu := (live_uses s (bl r.key)).1;have hno : SOk (live s (bl r.key)).1 ∧ (live s (bl r.key)).1.uses ≤ s.uses + 1 := ⟨hl, by omega⟩;unfold countReq;simp only
 split
 ·exact hno
 ·rename_i x hx
  obtain ⟨i, _, hi, rfl⟩ := bind_some hx
  split
  ·exact hno
  ·rename_i hn
   have hn' := (numOf_in _ hn).1;have := hl.put (may_count (hl.items _ (List.getElem_mem hi)) (counted_in hr hn')) (by omega);rw [hlu] at this; exact this
theorem goneReq_ok {s : Store} {r : Req} (h : SOk s) (hr : ROk r) (hu : s.uses < maxN) : SOk (goneReq s r).1 ∧ (goneReq s r).1.uses ≤ s.uses + 1 := by
 have hl := h.live (bl r.key);have hlu := (live_uses s (bl r.key)).1;unfold goneReq;simp only
 split
 ·exact ⟨hl, by show (live s (bl r.key)).1.uses ≤ _; omega⟩
 ·rename_i i hi
  split
  ·have ha := hl.asked i (by omega)
   have := ha.timed i _ (untilOf_in ha hr.exp.1);exact ⟨this, by show (live s (bl r.key)).1.uses + 1 ≤ _; omega⟩
  ·exact ⟨hl.less (List.eraseIdx_sublist _ _), by show (live s (bl r.key)).1.uses ≤ _; omega⟩
theorem SOk.flush {s : Store} (h : SOk s) : SOk { s with items := [], flash := { s.flash with pages := [] } } := by
 obtain ⟨⟨a1, a2, a3, a4, a5⟩, _⟩ := fok_parts h.flash;have b0 := h.h0; have b1 := h.h1; have b2 := h.h2; have b3 := h.h3;refine ⟨h.clock, h.cas, h.uses, h.most, by simp, ok_mk ⟨a1, a2, by simpa using a1, a4, a5⟩ rfl, h.h0, h.h1, h.h2, h.h3, fun x hx => by simp at hx, rfl, ?_, ?_, ?_, ?_, h.sum⟩ <;> simp [countIn] <;> omega
theorem doReq_ok {s : Store} {r : Req} (h : SOk s) (hr : ROk r) (hu : s.uses ≤ 1099511627766) : SOk (doReq s r).1 ∧ (doReq s r).1.uses ≤ s.uses + 10 := by
 have hN : maxN = 1099511627776 := rfl;have hk := hr.kind;have w1 : ∀ {p : Store × Reply}, SOk p.1 ∧ p.1.uses ≤ s.uses + 1 → SOk p.1 ∧ p.1.uses ≤ s.uses + 10 := fun h => ⟨h.1, by omega⟩
 unfold doReq
 split
 ·rename_i h1
  have hl := (hr.keys h1).1;have := got_ok (ks := r.keys) (a := (s, [])) h (by show s.uses + _ ≤ _; omega);exact ⟨this.1, by have h2 := this.2; show (got s r.keys).1.uses ≤ _; unfold got; simp only at h2; omega⟩
 ·split
  ·exact w1 (countReq_ok h hr (by omega))
  ·split
   ·exact ⟨h.flush, by show s.uses ≤ _; omega⟩
   ·split
    ·exact ⟨h, by show s.uses ≤ _; omega⟩
    ·split
     ·exact w1 (goneReq_ok h hr (by omega))
     ·exact w1 (setReq_ok h hr (by omega) (by omega) (by omega))
open Go
theorem do_is {s : Store} {r : Req} (h : SOk s) (hf : r.fault = 0) (hu : s.uses ≤ 1099511627766) : doOf s r = ((doReq s r).1, (doReq s r).2, 0) ∧ SOk (doReq s r).1 ∧ (doReq s r).1.uses ≤ s.uses + 10 := by
 refine ⟨?_, doReq_ok h (rok hf) hu⟩;unfold doOf;rw [if_neg (by rw [(ok_iff s).2 h]; decide), if_neg (by rw [hf]; decide), if_neg (by omega)]
structure Step (ks : List Str) (s t : Store) : Prop where
 keys : ∀ y ∈ keysOf t.items, y ∈ keysOf s.items ∨ y ∈ ks
 cas : t.cas ≤ s.cas + 1
 clock : t.clock = s.clock
 most : t.most = s.most
 fmost : t.flash.most = s.flash.most
theorem Step.refl (ks : List Str) (s : Store) : Step ks s s := ⟨fun _ h => .inl h, by omega, rfl, rfl, rfl⟩
theorem Step.sub {ks : List Str} {s t : Store} (h : ∀ y ∈ keysOf t.items, y ∈ keysOf s.items) (h1 : t.cas = s.cas) (h2 : t.clock = s.clock) (h3 : t.most = s.most) (h4 : t.flash.most = s.flash.most) : Step ks s t :=
 ⟨fun y hy => .inl (h y hy), by omega, h2, h3, h4⟩
theorem Step.behind {ks : List Str} {s t u : Store} (h : Step ks t u) (h0 : ∀ y ∈ keysOf t.items, y ∈ keysOf s.items) (h1 : t.cas = s.cas) (h2 : t.clock = s.clock) (h3 : t.most = s.most) (h4 : t.flash.most = s.flash.most) : Step ks s u :=
 ⟨fun y hy => (h.keys y hy).imp (h0 y) id, by have := h.cas; omega, h.clock.trans h2, h.most.trans h3, h.fmost.trans h4⟩
theorem keys_erase (l : List Item) (i : Nat) : ∀ y ∈ keysOf (l.eraseIdx i), y ∈ keysOf l := fun _ hy => ((List.eraseIdx_sublist l i).map (fun x : Item => bl x.key)).mem hy
theorem live_same (s : Store) (k : Str) : (∀ y ∈ keysOf (live s k).1.items, y ∈ keysOf s.items) ∧ (live s k).1.cas = s.cas ∧ (live s k).1.clock = s.clock ∧ (live s k).1.most = s.most ∧ (live s k).1.flash = s.flash := by
 rcases live_le (s := s) (k := k) with e | e
 ·rw [e]; exact ⟨fun _ h => h, rfl, rfl, rfl, rfl⟩
 ·rw [e]; exact ⟨keys_erase _ _, rfl, rfl, rfl, rfl⟩
theorem away_fmost {s : Store} (i : Nat) (h : SOk s) : (away s i).flash.most = s.flash.most ∧ (away s i).most = s.most := by
 unfold away
 split
 ·exact ⟨rfl, rfl⟩
 ·dsimp only
  split
  ·rename_i hc
   exact ⟨(append_zero h.flash hc.2).1.most, rfl⟩
  ·exact ⟨rfl, rfl⟩
theorem room_most {s : Store} (c : Int) (h : SOk s) : (room s c).1.flash.most = s.flash.most ∧ (room s c).1.most = s.most := by
 unfold room
 split
 ·exact ⟨rfl, rfl⟩
 ·split
  ·unfold addHeld; split
   ·exact ⟨rfl, rfl⟩
   ·split
    ·exact ⟨rfl, rfl⟩
    ·split <;> exact ⟨rfl, rfl⟩
  ·split
   ·exact away_fmost _ h
   ·exact ⟨rfl, rfl⟩
theorem put_step {s : Store} {x : Item} (h : SOk s) (hx : MayPut x) : Step [bl x.key] s (put s x).1 := by
 obtain ⟨g1, g2, g3, g4, g5⟩ := h.without (bl x.key);obtain ⟨r1, r2, r3, r4, r5, r6⟩ := g1.room hx.cls;have hm := room_most x.cls g1
 have hw : (∀ y ∈ keysOf (D.without s (bl x.key)).items, y ∈ keysOf s.items) ∧ (D.without s (bl x.key)).most = s.most ∧ (D.without s (bl x.key)).flash = s.flash := by
  unfold D.without
  split
  ·exact ⟨keys_erase _ _, rfl, rfl⟩
  ·exact ⟨fun _ h => h, rfl, rfl⟩
 unfold put;simp only
 split
 ·exact .sub hw.1 g3 g5 hw.2.1 (by rw [hw.2.2])
 ·split
  ·refine ⟨fun y hy => ?_, ?_, ?_, ?_, ?_⟩
   ·obtain ⟨z, hz, rfl⟩ := List.mem_map.1 hy
    rcases mem_insert (findKey_le _ _) hz with rfl | hz
    ·exact .inr (List.mem_singleton.2 rfl)
    ·exact .inl (hw.1 _ (r6.mem (List.mem_map.2 ⟨z, hz, rfl⟩)))
   ·show (D.room _ _).1.cas + 1 ≤ _; omega
   ·show (D.room _ _).1.clock = _; omega
   ·show (D.room _ _).1.most = _; rw [hm.2, hw.2.1]
   ·show (D.room _ _).1.flash.most = _; rw [hm.1, hw.2.2]
  ·exact .sub (fun y hy => hw.1 y (r6.mem hy)) (r3.trans g3) (r5.trans g5) (hm.2.trans hw.2.1) (by rw [hm.1, hw.2.2])
theorem asked_same (s : Store) (i : Nat) : keysOf (asked s i).items = keysOf s.items := keysOf_modify s.items i _ (fun _ => rfl)
theorem got_play {ks : List ByteArray} : ∀ {a : Store × List Hit}, (∀ y ∈ keysOf (ks.foldl got1 a).1.items, y ∈ keysOf a.1.items) ∧ (ks.foldl got1 a).1.cas = a.1.cas ∧ (ks.foldl got1 a).1.clock = a.1.clock ∧ (ks.foldl got1 a).1.most = a.1.most ∧ (ks.foldl got1 a).1.flash = a.1.flash := by
 induction ks with
 | nil => intro a; exact ⟨fun _ h => h, rfl, rfl, rfl, rfl⟩
 | cons k ks ih =>
  intro a
  have h1 : (∀ y ∈ keysOf (got1 a k).1.items, y ∈ keysOf a.1.items) ∧ (got1 a k).1.cas = a.1.cas ∧ (got1 a k).1.clock = a.1.clock ∧ (got1 a k).1.most = a.1.most ∧ (got1 a k).1.flash = a.1.flash := by
   unfold got1
   split
   ·exact live_same _ _
   ·split
    ·exact ⟨fun _ h => h, rfl, rfl, rfl, rfl⟩
    ·exact ⟨fun y hy => by rw [asked_same] at hy; exact hy, rfl, rfl, rfl, rfl⟩
  obtain ⟨i1, i2, i3, i4, i5⟩ := ih (a := got1 a k);rw [List.foldl_cons];exact ⟨fun y hy => h1.1 y (i1 y hy), i2.trans h1.2.1, i3.trans h1.2.2.1, i4.trans h1.2.2.2.1, i5.trans h1.2.2.2.2⟩
theorem setReq_step {s : Store} {r : Req} (h : SOk s) (hr : ROk r) (h2 : 2 ≤ r.kind) (h3 : r.kind ≤ 11) : Step [bl r.key] s (setReq s r).1 := by
 have hl := h.live (bl r.key);obtain ⟨l1, l2, l3, l4, l5⟩ := live_same s (bl r.key);have hst : Step [bl r.key] s (stored (live s (bl r.key)).1 (newItem (live s (bl r.key)).1 r)).1 := (put_step hl (may_new hl hr h2 h3)).behind l1 l2 l3 l4 (by rw [l5]);have hno : Step [bl r.key] s (live s (bl r.key)).1 := .sub l1 l2 l3 l4 (by rw [l5]);unfold setReq;simp only
 split
 ·split
  ·exact hno
  ·exact hst
 ·split
  ·split
   ·exact hst
   ·exact hno
  ·split
   ·split
    ·rename_i x hx
     obtain ⟨i, _, hi, rfl⟩ := bind_some hx
     split
     ·exact hno
     ·rename_i hsz
      exact (put_step hl (may_grown (hl.items _ (List.getElem_mem hi)) hr h2 h3 hsz)).behind l1 l2 l3 l4 (by rw [l5])
    ·exact hno
   ·split
    ·split
     ·split
      ·exact hno
      ·exact hst
     ·exact hno
    ·exact hst
theorem countReq_step {s : Store} {r : Req} (h : SOk s) (hr : ROk r) (ks : List Str) : Step ks s (countReq s r).1 := by
 have hl := h.live (bl r.key);obtain ⟨l1, l2, l3, l4, l5⟩ := live_same s (bl r.key);have hno : Step ks s (live s (bl r.key)).1 := .sub l1 l2 l3 l4 (by rw [l5]);unfold countReq;simp only
 split
 ·exact hno
 ·rename_i x hx
  obtain ⟨i, _, hi, rfl⟩ := bind_some hx
  split
  ·exact hno
  ·rename_i hn
   have hn' := (numOf_in _ hn).1;have hp := (put_step hl (may_count (hl.items _ (List.getElem_mem hi)) (counted_in hr hn'))).behind l1 l2 l3 l4 (by rw [l5]);refine ⟨fun y hy => ?_, hp.cas, hp.clock, hp.most, hp.fmost⟩
   rcases hp.keys y hy with h1 | h1
   ·exact .inl h1
   ·rw [List.mem_singleton] at h1
    refine .inl (l1 y ?_);rw [h1];exact List.mem_map.2 ⟨_, List.getElem_mem hi, rfl⟩
theorem goneReq_step {s : Store} {r : Req} (ks : List Str) : Step ks s (goneReq s r).1 := by
 obtain ⟨l1, l2, l3, l4, l5⟩ := live_same s (bl r.key);unfold goneReq;simp only
 split
 ·exact .sub l1 l2 l3 l4 (by rw [l5])
 ·rename_i i hi
  split
  ·refine .sub (fun y hy => l1 y ?_) l2 l3 l4 (show (live s (bl r.key)).1.flash.most = _ by rw [l5])
   have e := keysOf_modify (asked (live s (bl r.key)).1 i).items i (fun x => { x with till := untilOf (asked (live s (bl r.key)).1 i) r.exp }) (fun _ => rfl);rw [← asked_same (live s (bl r.key)).1 i, ← e]; exact hy
  ·exact .sub (fun y hy => l1 y (keys_erase _ _ y hy)) l2 l3 l4 (show (live s (bl r.key)).1.flash.most = _ by rw [l5])
theorem doReq_step {s : Store} {r : Req} (h : SOk s) (hr : ROk r) : Step (if 2 ≤ r.kind ∧ r.kind ≤ 11 then [bl r.key] else []) s (doReq s r).1 := by
 have hk := hr.kind;obtain ⟨ks, hks⟩ : ∃ ks, ks = if 2 ≤ r.kind ∧ r.kind ≤ 11 then [bl r.key] else [] := ⟨_, rfl⟩;rw [← hks];unfold doReq
 split
 ·obtain ⟨g1, g2, g3, g4, g5⟩ := got_play (ks := r.keys) (a := (s, []))
  exact .sub g1 g2 g3 g4 (show (List.foldl got1 (s, []) r.keys).1.flash.most = _ by rw [g5])
 ·split
  ·exact countReq_step h hr _
  ·split
   ·exact .sub (fun y hy => by cases hy) rfl rfl rfl rfl
   ·split
    ·exact .refl _ _
    ·split
     ·exact goneReq_step _
     ·rw [hks, if_pos (by omega)]
      exact setReq_step h hr (by omega) (by omega)
def K8 : List ByteArray := [⟨#[97]⟩, ⟨#[98]⟩, ⟨#[99, 99]⟩, ⟨#[107, 101, 121]⟩, ⟨#[108, 111, 110, 103, 45, 107, 101, 121, 45, 110, 97, 109, 101]⟩, ⟨#[120, 47, 121]⟩, ⟨#[122, 57]⟩, ⟨#[126]⟩]
structure Req8 (q : Req) : Prop where
 fault : q.fault = 0
 key : 2 ≤ q.kind ∧ q.kind ≤ 11 → q.key ∈ K8
structure Played (m c : Nat) (p f : Int) (s : Store) : Prop where
 ok : SOk s
 uses : s.uses ≤ 10 * m
 cas : s.cas ≤ m
 clock : s.clock ≤ 8 * c
 keys : ∀ y ∈ keysOf s.items, y ∈ K8.map bl
 most : s.most = p
 fmost : s.flash.most = f
theorem Played.le {m n c d : Nat} {p f : Int} {s : Store} (h : Played m c p f s) (hn : m ≤ n) (hd : c ≤ d) : Played n d p f s := ⟨h.ok, by have := h.uses; omega, by have := h.cas; omega, by have := h.clock; omega, h.keys, h.most, h.fmost⟩
theorem Played.zero {p f : Int} (hp : 0 ≤ p ∧ p ≤ 40) (hf : 0 ≤ f ∧ f ≤ 20) : Played 0 0 p f ⟨0, 0, 0, p, 0, 0, 0, 0, [], ⟨f, 1, []⟩⟩ := by
 have hm : maxN = 1099511627776 := rfl;refine ⟨⟨by dsimp only; omega, by dsimp only; omega, by dsimp only; omega, hp, by simp, ?_, by dsimp only; omega, by dsimp only; omega, by dsimp only; omega, by dsimp only; omega, by simp, rfl, ?_, ?_, ?_, ?_, by dsimp only; omega⟩, by dsimp only; omega, by dsimp only; omega, by dsimp only; omega, fun y hy => by simp [keysOf] at hy, rfl, rfl⟩
 ·exact ok_mk ⟨hf.1, hf.2, by simpa using hf.1, by simp, by simp [hm]⟩ rfl
 all_goals simp [countIn]
theorem Played.do {m c : Nat} {p f : Int} {s : Store} {r : Req} (h : Played m c p f s) (hr : Req8 r) (hm : m ≤ 100000) : ∃ t x, doOf s r = (t, x, 0) ∧ Played (m + 1) c p f t := by
 obtain ⟨h1, h2, h3⟩ := do_is h.ok hr.fault (by have := h.uses; omega);have hs := doReq_step h.ok (rok hr.fault);refine ⟨_, _, h1, h2, by have := h.uses; omega, by have := h.cas; have := hs.cas; omega, by rw [hs.clock]; have := h.clock; omega, fun y hy => ?_, hs.most.trans h.most, hs.fmost.trans h.fmost⟩
 rcases hs.keys y hy with h4 | h4
 ·exact h.keys y h4
 ·split at h4
  ·rename_i hk
   rw [List.mem_singleton] at h4;rw [h4]; exact List.mem_map.2 ⟨_, hr.key hk, rfl⟩
  ·cases h4
theorem less_ne' {a b : Str} (h : bytesLess a b = true) : a ≠ b := fun e => by rw [e, less_irrefl] at h; cases h
def withR : List Item → Item → List Item
 | [], x => [x]
 | y :: r, x => if bytesLess (bl x.key) (bl y.key) then x :: y :: r else y :: withR r x
theorem withR_none {l : List Item} {x : Item} (h : ∀ y ∈ l, bytesLess (bl x.key) (bl y.key) = false) : withR l x = l ++ [x] := by
 induction l with
 | nil => rfl
 | cons y l ih =>
  rw [withR, h y (by simp)]
  simp [ih (fun z hz => h z (by simp [hz]))]
theorem withR_at {l : List Item} {x y : Item} (h : ∀ z ∈ l, bytesLess (bl x.key) (bl z.key) = false) (hy : bytesLess (bl x.key) (bl y.key) = true) : withR (l ++ [y]) x = l ++ [x, y] := by
 induction l with
 | nil => simp [withR, hy]
 | cons z l ih =>
  rw [List.cons_append, withR, h z (by simp)]
  simp [ih (fun u hu => h u (by simp [hu]))]
theorem withR_past {l : List Item} {x y : Item} (h : ∃ z ∈ l, bytesLess (bl x.key) (bl z.key) = true) : withR (l ++ [y]) x = withR l x ++ [y] := by
 induction l with
 | nil => obtain ⟨z, hz, _⟩ := h; cases hz
 | cons z l ih =>
  rw [List.cons_append, withR, withR]
  cases hc : bytesLess (bl x.key) (bl z.key) with
  | true => simp
  | false =>
   simp only [Bool.false_eq_true, if_false, List.cons_append];rw [ih];obtain ⟨u, hu, hl⟩ := h
   rcases List.mem_cons.1 hu with rfl | hu
   ·rw [hc] at hl; cases hl
   ·exact ⟨u, hu, hl⟩
theorem withR_insert {l : List Item} {x : Item} (hr : rising l = true) (hn : bl x.key ∉ keysOf l) : withR l x = l.insertIdx (findKey l (bl x.key)) x := by
 induction l with
 | nil => rfl
 | cons y l ih =>
  have hr2 : rising l = true := rising_sub (List.sublist_cons_self y l) hr;have hne : bl y.key ≠ bl x.key := fun e => hn (by simp [keysOf, e])
  have hn2 : bl x.key ∉ keysOf l := fun h => hn (by simp only [keysOf, List.map_cons, List.mem_cons]; exact .inr h)
  rw [withR]
  cases hc : bytesLess (bl x.key) (bl y.key) with
  | true =>
   have : findKey (y :: l) (bl x.key) = 0 := by
    unfold findKey;rw [List.takeWhile_cons, less_asymm hc]
    rfl
   rw [this]; rfl
  | false =>
   have hlt : bytesLess (bl y.key) (bl x.key) = true := by
    cases h : bytesLess (bl y.key) (bl x.key) with
    | true => rfl
    | false => exact absurd (less_tri h hc) hne
   have : findKey (y :: l) (bl x.key) = findKey l (bl x.key) + 1 := by
    unfold findKey;rw [List.takeWhile_cons, hlt]
    rfl
   rw [this];simp only [Bool.false_eq_true, if_false, List.insertIdx_succ_cons];rw [ih hr2 hn2]
def otherKey (l : List Item) (k : Str) : List Item := l.filter (fun y => !(bl y.key == k))
theorem other_none {l : List Item} {k : Str} (h : k ∉ keysOf l) : otherKey l k = l := by
 unfold otherKey;rw [List.filter_eq_self];intro y hy;have : bl y.key ≠ k := fun e => h (List.mem_map.2 ⟨y, hy, e⟩)
 simp [this]
theorem other_erase {l : List Item} (hr : rising l = true) {i : Nat} (hi : i < l.length) : otherKey l (bl l[i].key) = l.eraseIdx i := by
 induction l generalizing i with
 | nil => simp at hi
 | cons y l ih =>
  have hr2 : rising l = true := rising_sub (List.sublist_cons_self y l) hr;have hp := (rising_pair (y :: l)).1 hr;have hp2 : ∀ z ∈ keysOf l, bytesLess (bl y.key) z = true := (List.pairwise_cons.1 hp).1
  cases i with
  | zero =>
   have hno : bl y.key ∉ keysOf l := fun h => by have := hp2 _ h; rw [less_irrefl] at this; cases this
   have := other_none hno;unfold otherKey at this ⊢;rw [List.getElem_cons_zero, List.filter_cons];simp only [beq_self_eq_true, Bool.not_true, Bool.false_eq_true, if_false, List.eraseIdx_cons_zero];exact this
  | succ i =>
   have hi2 : i < l.length := by simpa using hi
   have hne : bl y.key ≠ bl l[i].key := less_ne' (hp2 _ (List.mem_map.2 ⟨_, List.getElem_mem hi2, rfl⟩));have := ih hr2 hi2;unfold otherKey at this ⊢;rw [List.getElem_cons_succ, List.filter_cons];simp only [List.eraseIdx_cons_succ];rw [show (bl y.key == bl l[i].key) = false by simp [hne]];simp only [Bool.not_false, if_true];rw [this]
theorem live_absent {s : Store} {k : Str} (h : k ∉ keysOf s.items) : live s k = (s, none) := by
 unfold live;simp only
 split
 ·rename_i x hx
  rw [if_neg];intro e;obtain ⟨h1, h2⟩ := List.getElem?_eq_some_iff.1 hx;refine h (List.mem_map.2 ⟨x, ?_, by simpa using e⟩);rw [← h2]; exact List.getElem_mem h1
 ·rfl
theorem live_here {s : Store} {k : Str} {i : Nat} {x : Item} (hr : rising s.items = true) (hi : s.items[i]? = some x) (hk : bl x.key = k) (ht : ¬ (x.till ≠ 0 ∧ x.till ≤ s.clock)) : live s k = (s, some i) := by
 obtain ⟨h1, h2⟩ := List.getElem?_eq_some_iff.1 hi;have hf : findKey s.items k = i := has_mem hr h1 (by rw [h2]; exact hk);unfold live;simp only [hf, hi];rw [if_pos (by simp [hk]), if_neg ht]
theorem live_over {s : Store} {k : Str} {i : Nat} {x : Item} (hr : rising s.items = true) (hi : s.items[i]? = some x) (hk : bl x.key = k) (ht : x.till ≠ 0 ∧ x.till ≤ s.clock) : live s k = ({ s with items := s.items.eraseIdx i }, none) := by
 obtain ⟨h1, h2⟩ := List.getElem?_eq_some_iff.1 hi;have hf : findKey s.items k = i := has_mem hr h1 (by rw [h2]; exact hk);unfold live;simp only [hf, hi];rw [if_pos (by simp [hk]), if_pos ht]
open Go
-- the same as PNum's, under other names: a merged base may leave those out
theorem parse_digitR {u : Nat} {d : Nat} : ∀ {l : List UInt8} {acc : Nat}, Lib.parseUint10 acc l = .ok u → d < 10 → u * 10 + d < 9223372036854775808 → Lib.parseUint10 acc (l ++ [UInt8.ofNat (48 + d)]) = .ok (u * 10 + d)
 | [], _, h, hd, hu => by
  simp only [Lib.parseUint10] at h
  injection h with h
  subst h;have e : (UInt8.ofNat (48 + d)).toNat = 48 + d := by simp [UInt8.toNat_ofNat']; omega
  simp only [List.nil_append, Lib.parseUint10, e];rw [if_pos (by omega), if_neg (by omega), if_neg (by omega)]
  congr 1; omega
 | c :: r, acc, h, hd, hu => by
  simp only [List.cons_append, Lib.parseUint10] at h ⊢
  split at h
  ·split at h
   ·cases h
   ·split at h
    ·cases h
    ·rename_i h1 h2 h3
     rw [if_pos h1, if_neg h2, if_neg h3];exact parse_digitR (acc := acc * 10 + (c.toNat - 48)) h hd hu
  ·cases h
theorem parse_decR (u : Nat) (h : u < 9223372036854775808) : Lib.parseUint10 0 (Lib.decDigits u) = .ok u := by
 induction u using Nat.strongRecOn with
 | _ u ih =>
  rw [Lib.decDigits.eq_1]
  split
  ·rename_i h1
   have := parse_digitR (u := 0) (d := u) (l := []) (acc := 0) rfl h1 (by omega)
   simpa using this
  ·rename_i h1
   have := parse_digitR (u := u / 10) (d := u % 10) (acc := 0) (ih (u / 10) (by omega) (by omega)) (by omega) (by omega);rw [this]; congr 1; omega
theorem dec_headR (u : Nat) : ∃ c r, Lib.decDigits u = c :: r ∧ 48 ≤ c.toNat ∧ c.toNat ≤ 57 := by
 induction u using Nat.strongRecOn with
 | _ u ih =>
  rw [Lib.decDigits.eq_1]
  split
  ·rename_i h
   refine ⟨_, [], rfl, ?_⟩;have e : (UInt8.ofNat (48 + u)).toNat = 48 + u := by simp [UInt8.toNat_ofNat']; omega
   omega
  ·obtain ⟨c, r, h, h1⟩ := ih (u / 10) (by omega)
   exact ⟨c, r ++ _, by rw [h]; rfl, h1⟩
theorem atoi_decR {u : Nat} (h : u < 9223372036854775808) : Lib.atoiAll (Lib.decDigits u) = .ok u := by
 have hp := parse_decR u h;obtain ⟨c, r, e, h1, h2⟩ := dec_headR u;rw [e] at hp ⊢;unfold Lib.atoiAll;simp only;rw [if_neg (by omega)];unfold Lib.parseMag;rw [if_neg (by simp), hp];simp only;rw [if_neg (by omega), if_neg (by omega), if_neg (by omega)]
theorem bl_decSR (n : Int) : bl (decS n) = decL n := by simp [bl, decS]
theorem num_decR {n : Int} (h : 0 ≤ n ∧ n ≤ maxN) : numOf (decS n) = n := by
 obtain ⟨u, rfl⟩ : ∃ u : Nat, n = u := ⟨n.toNat, by omega⟩;have hm : maxN = 1099511627776 := rfl;unfold numOf;rw [bl_decSR];unfold decL;rw [Lib.itoa_nonneg, atoi_decR (by omega)];simp only;rw [if_pos ⟨h.1, h.2, trivial⟩]
def isDig (c : UInt8) : Bool := decide (48 ≤ c.toNat ∧ c.toNat ≤ 57)
def valD (l : Str) : Nat := l.foldl (fun n c => 10 * n + (c.toNat - 48)) 0
theorem valD_snoc (l : Str) (c : UInt8) : valD (l ++ [c]) = 10 * valD l + (c.toNat - 48) := by simp [valD]
theorem snoc_ind {P : Str → Prop} (h0 : P []) (h1 : ∀ l c, P l → P (l ++ [c])) : ∀ l, P l := by
 suffices h : ∀ n (l : Str), l.length = n → P l from fun l => h _ l rfl
 intro n
 induction n with
 | zero => intro l hl; rw [List.eq_nil_of_length_eq_zero hl]; exact h0
 | succ n ih =>
  intro l hl;have hne : l ≠ [] := fun e => by rw [e] at hl; simp at hl
  rw [← List.dropLast_concat_getLast hne];exact h1 _ _ (ih _ (by rw [List.length_dropLast, hl]; rfl))
theorem dig_snoc {l : Str} {c : UInt8} (h : (l ++ [c]).all isDig = true) : l.all isDig = true ∧ 48 ≤ c.toNat ∧ c.toNat ≤ 57 := by
 rw [List.all_append, Bool.and_eq_true] at h;have h2 : isDig c = true := by simpa using h.2
 unfold isDig at h2;rw [decide_eq_true_eq] at h2;exact ⟨h.1, h2⟩
theorem valD_lt : ∀ l : Str, l.all isDig = true → valD l < 10 ^ l.length := by
 refine snoc_ind (fun _ => by simp [valD]) (fun l c ih h => ?_);obtain ⟨h1, h2, h3⟩ := dig_snoc h;have := ih h1;rw [valD_snoc, List.length_append, List.length_singleton, Nat.pow_succ];omega
theorem u8_of {c : UInt8} {n : Nat} (h : c.toNat = n) : c = UInt8.ofNat n := by rw [← h]; simp
theorem dec_val : ∀ l : Str, l ≠ [] → l.all isDig = true → l.head? ≠ some 48 → 1 ≤ valD l ∧ l = Lib.decDigits (valD l) := by
 refine snoc_ind (fun h => absurd rfl h) (fun l c ih _ hd hh => ?_);obtain ⟨h1, h2, h3⟩ := dig_snoc hd;rw [valD_snoc]
 by_cases hl : l = []
 ·subst hl
  have hc : c ≠ 48 := fun e => hh (by rw [e]; rfl)
  have hc2 : c.toNat ≠ 48 := fun e => hc (u8_of e)
  have e0 : valD [] = 0 := rfl;rw [e0];refine ⟨by omega, ?_⟩;rw [Lib.decDigits.eq_1, dif_pos (by omega)];simp only [List.nil_append, List.cons.injEq, and_true];exact u8_of (by omega)
 ·have hh2 : l.head? ≠ some 48 := fun e => hh (by rw [List.head?_append, e]; rfl)
  obtain ⟨i1, i2⟩ := ih hl h1 hh2;refine ⟨by omega, ?_⟩;rw [Lib.decDigits.eq_1, dif_neg (by omega), show (10 * valD l + (c.toNat - 48)) / 10 = valD l by omega, show (10 * valD l + (c.toNat - 48)) % 10 = c.toNat - 48 by omega, ← i2]
  congr 1
  simp only [List.cons.injEq, and_true];exact u8_of (by omega)
theorem dec_all (u : Nat) : (Lib.decDigits u).all isDig = true ∧ valD (Lib.decDigits u) = u ∧ (10 ≤ u → (Lib.decDigits u).head? ≠ some 48) ∧ (u < 10 → (Lib.decDigits u).length = 1) := by
 induction u using Nat.strongRecOn with
 | _ u ih =>
  rw [Lib.decDigits.eq_1]
  split
  ·rename_i h
   have e : (UInt8.ofNat (48 + u)).toNat = 48 + u := by simp [UInt8.toNat_ofNat']; omega
   refine ⟨?_, ?_, fun h2 => by omega, fun _ => rfl⟩
   ·simp only [List.all_cons, List.all_nil, Bool.and_true]
    unfold isDig;rw [e, decide_eq_true_eq]; omega
   ·show 10 * 0 + ((UInt8.ofNat (48 + u)).toNat - 48) = u
    rw [e]; omega
  ·rename_i h
   have e : (UInt8.ofNat (48 + u % 10)).toNat = 48 + u % 10 := by simp [UInt8.toNat_ofNat']; omega
   obtain ⟨i1, i2, i3, i4⟩ := ih (u / 10) (by omega);refine ⟨?_, ?_, fun _ => ?_, fun h2 => by omega⟩
   ·rw [List.all_append, i1]
    simp only [List.all_cons, List.all_nil, Bool.and_true, Bool.true_and];unfold isDig;rw [e, decide_eq_true_eq]; omega
   ·rw [valD_snoc, i2, e]; omega
   ·by_cases h10 : 10 ≤ u / 10
    ·have := i3 h10
     rw [List.head?_append]
     cases hh : (Lib.decDigits (u / 10)).head? with
     | none =>
      obtain ⟨c, r, hc, _⟩ := dec_headR (u / 10);rw [hc] at hh; cases hh
     | some x => rw [hh] at this; exact this
    ·rw [Lib.decDigits.eq_1, dif_pos (by omega)]
     simp only [List.cons_append, List.head?_cons, ne_eq, Option.some.injEq];intro e2;have := congrArg UInt8.toNat e2;rw [show (UInt8.ofNat (48 + u / 10)).toNat = 48 + u / 10 by simp [UInt8.toNat_ofNat']; omega] at this;have h48 : (48 : UInt8).toNat = 48 := rfl;rw [h48] at this;omega
theorem dec_len10 : ∀ (k u : Nat), u < 10 ^ (k + 1) → (Lib.decDigits u).length ≤ k + 1
 | 0, u, h => by rw [(dec_all u).2.2.2 (by simpa using h)]; exact Nat.le_refl _
 | k + 1, u, h => by
  by_cases h10 : u < 10
  ·rw [(dec_all u).2.2.2 h10]; omega
  ·rw [Lib.decDigits.eq_1, dif_neg h10, List.length_append, List.length_singleton]
   have := dec_len10 k (u / 10) (by rw [Nat.pow_succ] at h; omega);omega
def numR (l : Str) : Int :=
 if l.length = 0 ∨ 13 < l.length ∨ (1 < l.length ∧ l.head? = some 48) then -1
 else if l.all isDig = true then (if 1099511627776 < (valD l : Int) then -1 else valD l) else -1
theorem numR_dec {u : Nat} (h : u ≤ 1099511627776) : numR (Lib.decDigits u) = u := by
 obtain ⟨a1, a2, a3, a4⟩ := dec_all u;have hl := dec_len10 12 u (Nat.lt_of_le_of_lt h (by decide));obtain ⟨c, r, hc, _⟩ := dec_headR u;have h0 : (Lib.decDigits u).length ≠ 0 := by rw [hc]; simp
 unfold numR;rw [if_neg, if_pos a1, a2, if_neg (by omega)];rintro (h1 | h1 | ⟨h1, h2⟩)
 ·exact h0 h1
 ·omega
 ·by_cases h10 : u < 10
  ·rw [a4 h10] at h1; omega
  ·exact a3 (by omega) h2
theorem numR_ok {l : Str} (h : numR l ≠ -1) : ∃ u : Nat, numR l = u ∧ u ≤ 1099511627776 ∧ l = Lib.decDigits u := by
 unfold numR at h ⊢
 by_cases h1 : l.length = 0 ∨ 13 < l.length ∨ (1 < l.length ∧ l.head? = some 48)
 ·rw [if_pos h1] at h; exact absurd rfl h
 ·rw [if_neg h1] at h ⊢
  by_cases h2 : l.all isDig = true
  ·rw [if_pos h2] at h ⊢
   by_cases h3 : 1099511627776 < (valD l : Int)
   ·rw [if_pos h3] at h; exact absurd rfl h
   ·rw [if_neg h3]
    refine ⟨valD l, rfl, by omega, ?_⟩;have hne : l ≠ [] := fun e => h1 (.inl (by rw [e]; rfl))
    by_cases hh : l.head? = some 48
    ·have hl1 : l.length = 1 := by
      have : ¬ 1 < l.length := fun h4 => h1 (.inr (.inr ⟨h4, hh⟩))
      have : l.length ≠ 0 := fun h4 => h1 (.inl h4)
      omega
     match l, hl1, hh with
     | [c], _, hh =>
      simp only [List.head?_cons, Option.some.injEq] at hh;subst hh;have : valD [48] = 0 := rfl;rw [this, Lib.decDigits.eq_1]
      rfl
    ·exact (dec_val l hne h2 hh).2
  ·rw [if_neg h2] at h; exact absurd rfl h
theorem numOf_low (v : ByteArray) (h : numOf v < 0) : numOf v = -1 := by
 unfold numOf at h ⊢;revert h
 generalize Lib.atoiAll (bl v) = e
 intro h
 cases e with
 | ok n =>
  by_cases h1 : 0 ≤ n ∧ n ≤ maxN ∧ decS n = v
  ·simp only [if_pos h1] at h; omega
  ·simp only [if_neg h1]
 | _ => rfl
theorem numR_is (v : ByteArray) : numR (bl v) = numOf v := by
 have hm : maxN = 1099511627776 := rfl
 by_cases h : numOf v < 0
 ·rw [numOf_low v h]
  apply Decidable.byContradiction;intro hr;obtain ⟨u, h1, h2, h3⟩ := numR_ok hr
  have hv : v = decS (u : Int) := by
   apply ByteArray.ext;apply Array.toList_inj.1;show bl v = bl (decS u);rw [h3, bl_decSR];unfold decL;rw [Lib.itoa_nonneg]
  have := num_decR (n := (u : Int)) (by omega);rw [← hv] at this;omega
 ·obtain ⟨h1, h2⟩ := numOf_in v h
  obtain ⟨u, hu⟩ : ∃ u : Nat, numOf v = u := ⟨(numOf v).toNat, by omega⟩;rw [hu] at h2 h1 ⊢;rw [← h2, bl_decSR];unfold decL;rw [Lib.itoa_nonneg];exact numR_dec (by omega)
end Go.Proofs.YtbeegfkfpkfccaaGreatDoor.D
