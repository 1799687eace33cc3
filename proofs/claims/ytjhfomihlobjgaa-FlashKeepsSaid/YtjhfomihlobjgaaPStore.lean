/-
  Plain law: what a store is, in lists and integers, and what its calls make of it. Nothing of the program stands here.
-/
import Derived.Test.YtjhfomihlobjgaaPKey
import GoSem.Op.String
namespace Go.Proofs.Ytjhfomihlobjgaa.D
def bl (s : ByteArray) : Str := s.data.toList
abbrev bytesLess : Str → Str → Bool := Op.bytesLess
structure Item where
  key : ByteArray
  flags : Int
  till : Int
  cas : Int
  used : Int
  value : ByteArray
  far : Bool
  place : Place
structure Store where
  clock : Int
  cas : Int
  uses : Int
  most : Int
  h0 : Int
  h1 : Int
  h2 : Int
  h3 : Int
  items : List Item
  flash : Flash
def Store.zero : Store := ⟨0, 0, 0, 0, 0, 0, 0, 0, [], Flash.zero⟩
def keyOK (s : ByteArray) : Bool := keyL (bl s)
def cnt (n : Int) : Bool := decide (0 ≤ n ∧ n ≤ maxN)
/-- the class of a key and a value of so many bytes -/
def classOf (k v : Int) : Int :=
  if 1 ≤ k ∧ k ≤ 20 ∧ 0 ≤ v ∧ v ≤ 200 then (if 8 + k + v ≤ 32 then 0 else if 8 + k + v ≤ 64 then 1 else if 8 + k + v ≤ 128 then 2 else 3) else -1
def Item.cls (x : Item) : Int := classOf x.key.size x.value.size
def itemOK (s : Store) (x : Item) : Bool :=
  keyOK x.key && decide (0 ≤ x.flags ∧ x.flags ≤ 65535) && cnt x.till && decide (1 ≤ x.cas ∧ x.cas ≤ s.cas) && decide (1 ≤ x.used ∧ x.used ≤ s.uses) && decide (x.value.size ≤ 200) &&
  (if x.far then decide ((s.flash.read x.place).2 = 0) && decide (x.value.size = 0) && decide (24 ≤ (s.flash.read x.place).1.length) else decide (x.place = ⟨0, 0⟩))
/-- keys that rise -/
def rising : List Item → Bool
  | a :: b :: r => bytesLess (bl a.key) (bl b.key) && rising (b :: r)
  | _ => true
def per (c : Int) : Int := if c = 0 then 8 else if c = 1 then 4 else if c = 2 then 2 else 1
def Store.held (s : Store) (c : Int) : Int := if c = 0 then s.h0 else if c = 1 then s.h1 else if c = 2 then s.h2 else s.h3
def countIn (l : List Item) (c : Int) : Int := (l.filter (fun x => !x.far && x.cls == c)).length
def heldOK (s : Store) (n : Int) : Bool := decide (0 ≤ n ∧ n ≤ s.most)
def Store.ok (s : Store) : Bool :=
  cnt s.clock && cnt s.cas && cnt s.uses && decide (0 ≤ s.most ∧ s.most ≤ 40) && decide (s.items.length ≤ 1000) && s.flash.ok &&
  heldOK s s.h0 && heldOK s s.h1 && heldOK s s.h2 && heldOK s s.h3 && s.items.all (itemOK s) && rising s.items &&
  decide (countIn s.items 0 ≤ s.h0 * 8) && decide (countIn s.items 1 ≤ s.h1 * 4) && decide (countIn s.items 2 ≤ s.h2 * 2) && decide (countIn s.items 3 ≤ s.h3) &&
  decide (s.h0 + s.h1 + s.h2 + s.h3 ≤ s.most)

/-- where a key is, or would be -/
def findKey (l : List Item) (k : Str) : Nat := (l.takeWhile (fun x => bytesLess (bl x.key) k)).length
def hasKey (l : List Item) (k : Str) : Bool := match l[findKey l k]? with | some x => bl x.key == k | none => false
/-- the item of a key that is there (its index), and the store without it, if its time is over -/
def live (s : Store) (k : Str) : Store × Option Nat :=
  let i := findKey s.items k
  match s.items[i]? with
  | some x => if bl x.key == k then (if x.till ≠ 0 ∧ x.till ≤ s.clock then ({ s with items := s.items.eraseIdx i }, none) else (s, some i)) else (s, none)
  | none => (s, none)
def valueOf (s : Store) (x : Item) : ByteArray := if x.far then ⟨(s.flash.read x.place).1.toArray⟩ else x.value
def asked (s : Store) (i : Nat) : Store := { s with uses := s.uses + 1, items := s.items.modify i (fun x => { x with used := s.uses + 1 }) }
def away (s : Store) (i : Nat) : Store :=
  match s.items[i]? with
  | none => s
  | some x =>
    let r := s.flash.append (bl x.value)
    if 24 ≤ x.value.size ∧ r.2.2.2 = 0 then
      let l := s.items.modify i (fun x => { x with value := ByteArray.empty, far := true, place := r.2.1 })
      { s with flash := r.1, items := if 0 < r.2.2.1 then l.filter (fun y => !(y.far && y.place.page == r.2.2.1)) else l }
    else { s with items := s.items.eraseIdx i }
/-- of a class: the first one in memory that was asked longest ago -/
def oldest (l : List Item) (c : Int) : Option Nat :=
  (l.zipIdx).foldl (fun (b : Option (Nat × Int)) p => if !p.1.far && p.1.cls == c then (match b with | none => some (p.2, p.1.used) | some q => if p.1.used < q.2 then some (p.2, p.1.used) else b) else b) none |>.map (·.1)
def addHeld (s : Store) (c : Int) : Store :=
  if c = 0 then { s with h0 := s.h0 + 1 } else if c = 1 then { s with h1 := s.h1 + 1 } else if c = 2 then { s with h2 := s.h2 + 1 } else { s with h3 := s.h3 + 1 }
def room (s : Store) (c : Int) : Store × Bool :=
  if countIn s.items c < s.held c * per c then (s, decide (s.items.length < 1000))
  else if s.h0 + s.h1 + s.h2 + s.h3 < s.most then (addHeld s c, decide (s.items.length < 1000))
  else match oldest s.items c with
    | some i => (away s i, decide ((away s i).items.length < 1000))
    | none => (s, false)
def put (s : Store) (x : Item) : Store × Bool :=
  let i := findKey s.items (bl x.key)
  let s1 := if hasKey s.items (bl x.key) then { s with items := s.items.eraseIdx i } else s
  if s1.cas = maxN then (s1, false) else
  let r := room s1 x.cls
  if r.2 = false then (r.1, false) else
  let s2 := r.1
  let y := { x with cas := s2.cas + 1, used := s2.uses + 1 }
  ({ s2 with cas := s2.cas + 1, uses := s2.uses + 1, items := s2.items.insertIdx (findKey s2.items (bl x.key)) y }, true)
def untilOf (s : Store) (e : Int) : Int := if e = 0 then 0 else min (s.clock + e) maxN
end Go.Proofs.Ytjhfomihlobjgaa.D
