/-
 What the calls of a store leave, in one form: where a store lies (StAt), and the ends of store.Do, store.Tick, store.New by it.
-/
import Derived.Test.YtbeegfkfpkfccaaGreatDoorYCDo
import Derived.Test.YtbeegfkfpkfccaaGreatDoorYTick
namespace Go.Proofs.YtbeegfkfpkfccaaGreatDoor.D
open Go.RowKit
theorem do_cases (s : Store) (r : Req) : ((doOf s r).1 = Store.zero ∧ (doOf s r).2.1 = Reply.zero ∧ (doOf s r).2.2 ≠ 0) ∨ (SOk s ∧ r.fault = 0 ∧ s.uses ≤ 1099511627766 ∧ SOk (doReq s r).1 ∧ doOf s r = ((doReq s r).1, (doReq s r).2, 0)) := by
 cases h : s.ok
 ·rw [do_bad h]; exact .inl ⟨rfl, rfl, by decide⟩
 ·by_cases hf : r.fault = 0
  ·by_cases hu : 1099511627766 < s.uses
   ·rw [do_late h hf hu]; exact .inl ⟨rfl, rfl, by decide⟩
   ·exact .inr ⟨(ok_iff s).1 h, hf, by omega, (doReq_ok ((ok_iff s).1 h) (rok hf) (by omega)).1, do_good h hf hu⟩
  ·rw [do_fault h rfl hf]; exact .inl ⟨rfl, rfl, hf⟩
theorem SOk.at {s : Store} (h : SOk s) {base : Nat} {w : World} {va fa : Option Addr} {vc fc : Nat} {vs : List Value} (h1 : w.ownsRow base 83 9 (.slice va s.items.length vc) s.items.length (s.items.flatMap itemCells))
  (h2 : PagesOwn base w (.slice fa s.flash.pages.length fc) s.flash.pages vs) : StOwn base w s va vc fa fc :=
 ⟨h1, ⟨vs, h2⟩, h.itemB, h.pageB, h.len, pages_few h.flash⟩
theorem replySize : (Tryz.prog.info? 35).map (·.size) = some 3 := by kernel_rfl
theorem reply_one (r : Reply) (a : Option Addr) (c : Nat) : (replyCells r a c).all (·.oneCell') = true := by simp [replyCells, Value.oneCell']
end Go.Proofs.YtbeegfkfpkfccaaGreatDoor.D
