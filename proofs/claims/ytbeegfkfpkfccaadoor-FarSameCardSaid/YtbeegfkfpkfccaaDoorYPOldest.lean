/-
  Plain law: where there is no room the item that was asked longest ago goes. Nothing of the program stands here.
-/
import Derived.KernelRfl
import Derived.Test.YtbeegfkfpkfccaaDoorYPCounts
namespace Go.Proofs.YtbeegfkfpkfccaaDoor.D
/-- the text of a number of one figure -/
theorem dec_one {i : Nat} (h : i < 10) : decS i = ⟨#[UInt8.ofNat (48 + i)]⟩ := by
  unfold decS
  rw [dec_digit (by omega) (by omega)]
  rfl
def kk (i : Nat) : ByteArray := ⟨#[107, UInt8.ofNat (48 + i)]⟩
def vv : ByteArray := ⟨#[118]⟩
def nw : ByteArray := ⟨#[110, 101, 119]⟩
theorem kk_dec {i : Nat} (h : i < 10) : (⟨#[107]⟩ : ByteArray) ++ decS i = kk i := by rw [dec_one h]; rfl
theorem kk_size (i : Nat) : (kk i).size = 2 := rfl
/-- behind so many items -/
def st (i : Nat) : Store := ⟨0, i, i, 1, if i = 0 then 0 else 1, 0, 0, 0, (List.range i).map (fun j => ⟨kk j, 0, 0, (j : Int) + 1, (j : Int) + 1, vv, false, ⟨0, 0⟩⟩), ⟨0, 1, []⟩⟩
theorem st_zero : (newS 1 0) = (st 0, 0) := by kernel_rfl
theorem set_k : ∀ i, i < 8 → doOf (st i) (reqPut 2 (kk i) vv 0) = (st (i + 1), ⟨2, 0, []⟩, 0)
  | 0, _ => by kernel_rfl
  | 1, _ => by kernel_rfl
  | 2, _ => by kernel_rfl
  | 3, _ => by kernel_rfl
  | 4, _ => by kernel_rfl
  | 5, _ => by kernel_rfl
  | 6, _ => by kernel_rfl
  | 7, _ => by kernel_rfl
  | n + 8, h => absurd h (by omega)
/-- one of them was asked -/
def ga (a : Nat) : Store := asked (st 8) a
theorem get_k : ∀ a, a < 8 → doOf (st 8) (reqGet (kk a)) = (ga a, ⟨1, 0, [⟨kk a, 0, (a : Int) + 1, vv⟩]⟩, 0)
  | 0, _ => by kernel_rfl
  | 1, _ => by kernel_rfl
  | 2, _ => by kernel_rfl
  | 3, _ => by kernel_rfl
  | 4, _ => by kernel_rfl
  | 5, _ => by kernel_rfl
  | 6, _ => by kernel_rfl
  | 7, _ => by kernel_rfl
  | n + 8, h => absurd h (by omega)
/-- and one more came -/
def fin (a : Nat) (c : UInt8) : Store := (doOf (ga a) (reqPut 2 nw ⟨#[c]⟩ 0)).1
theorem set_new (c : UInt8) : ∀ a, a < 8 → doOf (ga a) (reqPut 2 nw ⟨#[c]⟩ 0) = (fin a c, ⟨2, 0, []⟩, 0) ∧ (fin a c).items.length = 8
  | 0, _ => ⟨by kernel_rfl, by kernel_rfl⟩
  | 1, _ => ⟨by kernel_rfl, by kernel_rfl⟩
  | 2, _ => ⟨by kernel_rfl, by kernel_rfl⟩
  | 3, _ => ⟨by kernel_rfl, by kernel_rfl⟩
  | 4, _ => ⟨by kernel_rfl, by kernel_rfl⟩
  | 5, _ => ⟨by kernel_rfl, by kernel_rfl⟩
  | 6, _ => ⟨by kernel_rfl, by kernel_rfl⟩
  | 7, _ => ⟨by kernel_rfl, by kernel_rfl⟩
  | n + 8, h => absurd h (by omega)
def goneOf (a : Nat) : Nat := if a = 0 then 1 else 0
/-- what a get tells: the error, and how many are found -/
def asks (s : Store) (k : ByteArray) : Int × Nat := ((doOf s (reqGet k)).2.2, (doOf s (reqGet k)).2.1.hits.length)
theorem get_fin0 (c : UInt8) : ∀ i, i < 8 → asks (fin 0 c) (kk i) = (0, if i = goneOf 0 then 0 else 1)
  | 0, _ => by kernel_rfl
  | 1, _ => by kernel_rfl
  | 2, _ => by kernel_rfl
  | 3, _ => by kernel_rfl
  | 4, _ => by kernel_rfl
  | 5, _ => by kernel_rfl
  | 6, _ => by kernel_rfl
  | 7, _ => by kernel_rfl
  | n + 8, h => absurd h (by omega)
theorem get_fin1 (c : UInt8) : ∀ i, i < 8 → asks (fin 1 c) (kk i) = (0, if i = goneOf 1 then 0 else 1)
  | 0, _ => by kernel_rfl
  | 1, _ => by kernel_rfl
  | 2, _ => by kernel_rfl
  | 3, _ => by kernel_rfl
  | 4, _ => by kernel_rfl
  | 5, _ => by kernel_rfl
  | 6, _ => by kernel_rfl
  | 7, _ => by kernel_rfl
  | n + 8, h => absurd h (by omega)
theorem get_fin2 (c : UInt8) : ∀ i, i < 8 → asks (fin 2 c) (kk i) = (0, if i = goneOf 2 then 0 else 1)
  | 0, _ => by kernel_rfl
  | 1, _ => by kernel_rfl
  | 2, _ => by kernel_rfl
  | 3, _ => by kernel_rfl
  | 4, _ => by kernel_rfl
  | 5, _ => by kernel_rfl
  | 6, _ => by kernel_rfl
  | 7, _ => by kernel_rfl
  | n + 8, h => absurd h (by omega)
theorem get_fin3 (c : UInt8) : ∀ i, i < 8 → asks (fin 3 c) (kk i) = (0, if i = goneOf 3 then 0 else 1)
  | 0, _ => by kernel_rfl
  | 1, _ => by kernel_rfl
  | 2, _ => by kernel_rfl
  | 3, _ => by kernel_rfl
  | 4, _ => by kernel_rfl
  | 5, _ => by kernel_rfl
  | 6, _ => by kernel_rfl
  | 7, _ => by kernel_rfl
  | n + 8, h => absurd h (by omega)
theorem get_fin4 (c : UInt8) : ∀ i, i < 8 → asks (fin 4 c) (kk i) = (0, if i = goneOf 4 then 0 else 1)
  | 0, _ => by kernel_rfl
  | 1, _ => by kernel_rfl
  | 2, _ => by kernel_rfl
  | 3, _ => by kernel_rfl
  | 4, _ => by kernel_rfl
  | 5, _ => by kernel_rfl
  | 6, _ => by kernel_rfl
  | 7, _ => by kernel_rfl
  | n + 8, h => absurd h (by omega)
theorem get_fin5 (c : UInt8) : ∀ i, i < 8 → asks (fin 5 c) (kk i) = (0, if i = goneOf 5 then 0 else 1)
  | 0, _ => by kernel_rfl
  | 1, _ => by kernel_rfl
  | 2, _ => by kernel_rfl
  | 3, _ => by kernel_rfl
  | 4, _ => by kernel_rfl
  | 5, _ => by kernel_rfl
  | 6, _ => by kernel_rfl
  | 7, _ => by kernel_rfl
  | n + 8, h => absurd h (by omega)
theorem get_fin6 (c : UInt8) : ∀ i, i < 8 → asks (fin 6 c) (kk i) = (0, if i = goneOf 6 then 0 else 1)
  | 0, _ => by kernel_rfl
  | 1, _ => by kernel_rfl
  | 2, _ => by kernel_rfl
  | 3, _ => by kernel_rfl
  | 4, _ => by kernel_rfl
  | 5, _ => by kernel_rfl
  | 6, _ => by kernel_rfl
  | 7, _ => by kernel_rfl
  | n + 8, h => absurd h (by omega)
theorem get_fin7 (c : UInt8) : ∀ i, i < 8 → asks (fin 7 c) (kk i) = (0, if i = goneOf 7 then 0 else 1)
  | 0, _ => by kernel_rfl
  | 1, _ => by kernel_rfl
  | 2, _ => by kernel_rfl
  | 3, _ => by kernel_rfl
  | 4, _ => by kernel_rfl
  | 5, _ => by kernel_rfl
  | 6, _ => by kernel_rfl
  | 7, _ => by kernel_rfl
  | n + 8, h => absurd h (by omega)
theorem get_fin (c : UInt8) {i : Nat} (hi : i < 8) : ∀ a, a < 8 → asks (fin a c) (kk i) = (0, if i = goneOf a then 0 else 1)
  | 0, _ => get_fin0 c i hi
  | 1, _ => get_fin1 c i hi
  | 2, _ => get_fin2 c i hi
  | 3, _ => get_fin3 c i hi
  | 4, _ => get_fin4 c i hi
  | 5, _ => get_fin5 c i hi
  | 6, _ => get_fin6 c i hi
  | 7, _ => get_fin7 c i hi
  | n + 8, h => absurd h (by omega)
end Go.Proofs.YtbeegfkfpkfccaaDoor.D
