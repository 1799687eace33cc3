/-
  Plain law: what flash is, in lists and integers. Nothing of the program stands here.
-/
namespace Go.Proofs.Ytjhfomihlobjgaa.D
abbrev Str := List UInt8

def sum31 (n : Nat) (l : Str) : Nat := l.foldl (fun n c => (n * 31 + c.toNat) % 65521) n
def sumOf (l : Str) : Nat := sum31 7 l

theorem sum31_lt {n : Nat} (l : Str) (h : n < 65521) : sum31 n l < 65521 := by
  induction l generalizing n with
  | nil => exact h
  | cons c r ih => exact ih (Nat.mod_lt _ (by decide))
theorem sumOf_lt (l : Str) : sumOf l < 65521 := sum31_lt l (by decide)
theorem sum31_snoc (n : Nat) (l : Str) (c : UInt8) : sum31 n (l ++ [c]) = (sum31 n l * 31 + c.toNat) % 65521 := by
  simp [sum31]
theorem sumOf_snoc (l : Str) (c : UInt8) : sumOf (l ++ [c]) = (sumOf l * 31 + c.toNat) % 65521 := sum31_snoc 7 l c

/-- how long the value is whose record begins at a place -/
def lenAt (b : Str) (k : Nat) : Nat := (b.getD k 0).toNat
def valAt (b : Str) (k : Nat) : Str := (b.drop (k + 3)).take (lenAt b k)
/-- is there a record at a place? -/
def recB (b : Str) (k : Nat) : Bool :=
  decide (k + 3 + lenAt b k ≤ b.length ∧ lenAt b k ≤ 200 ∧ sumOf (valAt b k) = (b.getD (k+1) 0).toNat * 256 + (b.getD (k+2) 0).toNat)

/-- all of them are records, from a place on -/
def allRec (b : Str) (k : Nat) : Bool :=
  if k < b.length then recB b k && allRec b (k + 3 + lenAt b k) else true
termination_by b.length - k
decreasing_by omega

/-- the value whose record begins at a place, from a place on -/
def findRec (b : Str) (k : Nat) (q : Int) : Option Str :=
  if k < b.length then
    if (k : Int) = q then some (valAt b k) else findRec b (k + 3 + lenAt b k) q
  else none
termination_by b.length - k
decreasing_by omega

theorem allRec_step {b : Str} {k : Nat} (h : k < b.length) : allRec b k = (recB b k && allRec b (k + 3 + lenAt b k)) := by
  rw [allRec, if_pos h]
theorem allRec_end {b : Str} {k : Nat} (h : b.length ≤ k) : allRec b k = true := by
  rw [allRec, if_neg (by omega)]
theorem findRec_hit {b : Str} {k : Nat} {q : Int} (h : k < b.length) (e : (k : Int) = q) : findRec b k q = some (valAt b k) := by
  rw [findRec, if_pos h, if_pos e]
theorem findRec_miss {b : Str} {k : Nat} {q : Int} (h : k < b.length) (e : (k : Int) ≠ q) : findRec b k q = findRec b (k + 3 + lenAt b k) q := by
  rw [findRec, if_pos h, if_neg e]
theorem findRec_end {b : Str} {k : Nat} {q : Int} (h : b.length ≤ k) : findRec b k q = none := by
  rw [findRec, if_neg (by omega)]
theorem recB_le {b : Str} {k : Nat} (h : recB b k = true) : k + 3 + lenAt b k ≤ b.length ∧ lenAt b k ≤ 200 := by
  simp only [recB, decide_eq_true_eq] at h; exact ⟨h.1, h.2.1⟩

structure Page where
  number : Int
  bytes : Str
structure Flash where
  most : Int
  next : Int
  pages : List Page

def maxN : Int := 1099511627776

/-- pages whose numbers rise by one from a number on -/
def pagesOK : List Page → Int → Bool
  | [], _ => true
  | p :: r, n => decide (p.number = n ∧ 1 ≤ n ∧ 1 ≤ p.bytes.length ∧ p.bytes.length ≤ 256) && allRec p.bytes 0 && pagesOK r (n + 1)

def Flash.ok (f : Flash) : Bool :=
  decide (0 ≤ f.most ∧ f.most ≤ 20 ∧ (f.pages.length : Int) ≤ f.most ∧ 1 ≤ f.next ∧ f.next ≤ maxN) && pagesOK f.pages (f.next - f.pages.length)

theorem pagesOK_cons {p : Page} {r : List Page} {n : Int} : pagesOK (p :: r) n = (decide (p.number = n ∧ 1 ≤ n ∧ 1 ≤ p.bytes.length ∧ p.bytes.length ≤ 256) && allRec p.bytes 0 && pagesOK r (n + 1)) := rfl

/-- the record of a value -/
def recordOf (s : Str) : Str := [UInt8.ofNat s.length, UInt8.ofNat (sumOf s / 256), UInt8.ofNat (sumOf s % 256)] ++ s

structure Place where
  page : Int
  off : Int
  deriving DecidableEq

def Flash.zero : Flash := ⟨0, 0, []⟩
/-- where a value goes: the flash, its place, the page that had to go, the error -/
def Flash.append (f : Flash) (s : Str) : Flash × Place × Int × Int :=
  if f.ok = false then (Flash.zero, ⟨0, 0⟩, 0, 8)
  else if 200 < s.length then (Flash.zero, ⟨0, 0⟩, 0, 1)
  else if f.most = 0 ∨ f.next = maxN then (Flash.zero, ⟨0, 0⟩, 0, 7)
  else
    match f.pages.getLast? with
    | some p =>
      if p.bytes.length + 3 + s.length ≤ 256 then
        (⟨f.most, f.next, f.pages.dropLast ++ [⟨p.number, p.bytes ++ recordOf s⟩]⟩, ⟨p.number, p.bytes.length⟩, 0, 0)
      else if (f.pages.length : Int) = f.most then
        (⟨f.most, f.next + 1, f.pages.tail ++ [⟨f.next, recordOf s⟩]⟩, ⟨f.next, 0⟩, (f.pages.headD ⟨0, []⟩).number, 0)
      else (⟨f.most, f.next + 1, f.pages ++ [⟨f.next, recordOf s⟩]⟩, ⟨f.next, 0⟩, 0, 0)
    | none => (⟨f.most, f.next + 1, [⟨f.next, recordOf s⟩]⟩, ⟨f.next, 0⟩, 0, 0)

def Flash.pageOf (f : Flash) (n : Int) : Option Page := f.pages.find? (fun p => p.number == n)
/-- the value at a place, and the error -/
def Flash.read (f : Flash) (q : Place) : Str × Int :=
  if f.ok = false then ([], 8)
  else match f.pageOf q.page with
    | none => ([], 6)
    | some p => match findRec p.bytes 0 q.off with
      | some s => (s, 0)
      | none => ([], 2)
end Go.Proofs.Ytjhfomihlobjgaa.D
