/-
 What the calls of a store leave, in one form: where a store lies (StAt), and the ends of store.Do, store.Tick, store.New by it.
-/
import Derived.Test.YtbeegfkfpkfccaaGreatDoorYCDo
import Derived.Test.YtbeegfkfpkfccaaGreatDoorYCNewS
import Derived.Test.YtbeegfkfpkfccaaGreatDoorYCTickS
namespace Go.Proofs.YtbeegfkfpkfccaaGreatDoor.D
open Go.RowKit
theorem do_cases (s : Store) (r : Req) : ((doOf s r).1 = Store.zero ∧ (doOf s r).2.1 = Reply.zero ∧ (doOf s r).2.2 ≠ 0) ∨ (SOk s ∧ r.fault = 0 ∧ s.uses ≤ 1099511627766 ∧ SOk (doReq s r).1 ∧ doOf s r = ((doReq s r).1, (doReq s r).2, 0)) := by
 cases h : s.ok
 ·rw [do_bad h]; exact .inl ⟨rfl, rfl, by decide⟩
 ·by_cases hf : r.fault = 0
  ·by_cases hu : 1099511627766 < s.uses
   ·rw [do_late h hf hu]; exact .inl ⟨rfl, rfl, by decide⟩
   ·exact .inr ⟨(ok_iff s).1 h, hf, by omega, (doReq_ok ((ok_iff s).1 h) (rok hf) (by omega)).1, do_good h hf hu⟩
  ·rw [do_fault h rfl hf]; exact .inl ⟨rfl, rfl, hf⟩
def DoEnd (t : Store × Reply × Int) (w : World) (E : Ending) (w' : World) : Prop :=
 ∃ va vc fa fc ha hc, E = .returned (.tuple #[.agg (storeV t.1 va vc fa fc), .agg (replyCells t.2.1 ha hc), .int .i64 t.2.2]) ∧ StOwn w.heap.size w' t.1 va vc fa fc ∧ RowsAt w' ha 4 HitR t.2.1.hits ∧ Below w.heap.size w w'
theorem SOk.at {s : Store} (h : SOk s) {base : Nat} {w : World} {va fa : Option Addr} {vc fc : Nat} {vs : List Value} (h1 : w.ownsRow base 83 9 (.slice va s.items.length vc) s.items.length (s.items.flatMap itemCells))
  (h2 : PagesOwn base w (.slice fa s.flash.pages.length fc) s.flash.pages vs) : StOwn base w s va vc fa fc :=
 ⟨h1, ⟨vs, h2⟩, h.itemB, h.pageB, h.len, pages_few h.flash⟩
theorem do_end (s : Store) (r : Req) (va fa : Option Addr) (vc fc : Nat) (w : World) (he : Env w) (hs : StAt w s va vc fa fc) (ka : Option Addr) (kc : Nat) (hK : RowsAt w ka 1 strR r.keys) (hkl : r.keys.length ≤ 140737488355328) (hks : r.key.size ≤ 140737488355328) :
  Calls Tryz.prog 11 #[.agg (storeV s va vc fa fc), .agg #[.int .i64 r.kind, .string r.key, .slice ka r.keys.length kc, .int .i64 r.flags, .int .i64 r.exp, .int .i64 r.n, .string r.value, .bool r.quiet]] w (DoEnd (doOf s r) w) := by
 have h1 := hs.len
 have h2 := hs.plen
 refine (store_Do s va fa vc fc w he hs.items hs.pages (by omega) (by omega) r ka kc hK hkl hks).mono ?_
 rintro e w' ⟨va', vc', fa', fc', vs, ha, hc, rfl, h3, h4, h5, h6⟩
 refine ⟨va', vc', fa', fc', ha, hc, rfl, ?_, h5, h6⟩
 rcases do_cases s r with ⟨e1, e2, e3⟩ | ⟨_, _, _, e1, e2⟩
 ·simp only [e1] at h3 h4 ⊢
  exact ⟨h3, ⟨_, h4⟩, (fun x hx => by cases hx), (fun x hx => by cases hx), Nat.zero_le _, Nat.zero_le _⟩
 ·rw [e2] at h3 h4 ⊢
  exact e1.at h3 h4
/-- the cells of a request -/
abbrev reqCells (r : Req) (ka : Option Addr) (kc : Nat) : Array Value := #[.int .i64 r.kind, .string r.key, .slice ka r.keys.length kc, .int .i64 r.flags, .int .i64 r.exp, .int .i64 r.n, .string r.value, .bool r.quiet]
/-- a request as the plain law names it: the call's end, where the arguments' cells are known -/
theorem do_at {w : World} {s : Store} {r : Req} {va fa : Option Addr} {vc fc : Nat} {ka : Option Addr} {kc : Nat} {cs rs : Array Value} (he : Hid (Env w)) (hs : Hid (StAt w s va vc fa fc)) (hK : RowsAt w ka 1 strR r.keys) (hkl : r.keys.length ≤ 1000) (hks : r.key.size ≤ 1000)
  (hc : cs = storeV s va vc fa fc) (hr : rs = reqCells r ka kc) : Calls Tryz.prog 11 #[.agg cs, .agg rs] w (DoEnd (doOf s r) w) := by
 subst hc hr
 exact do_end s r va fa vc fc w he.out hs.out ka kc hK (by omega) (by omega)
theorem replySize : (Tryz.prog.info? 35).map (·.size) = some 3 := by kernel_rfl
theorem reply_one (r : Reply) (a : Option Addr) (c : Nat) : (replyCells r a c).all (·.oneCell') = true := by simp [replyCells, Value.oneCell']
end Go.Proofs.YtbeegfkfpkfccaaGreatDoor.D

