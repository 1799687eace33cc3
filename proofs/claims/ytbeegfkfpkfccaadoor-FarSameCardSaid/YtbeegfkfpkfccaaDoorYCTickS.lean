/-
  Contract: store.Tick: time passes. (Printed by gen_halves.py.) Condition: the table of chunks holds its four numbers; the store takes at most 2^47 bytes.
-/
import Derived.Test.YtbeegfkfpkfccaaDoorYOwn
import Derived.Test.YtbeegfkfpkfccaaDoorYCSCheck
namespace Go.Proofs.YtbeegfkfpkfccaaDoor.D
open Go.RowKit
def Store.tick (s : Store) (n : Int) : Store × Int :=
  if s.ok = false then (Store.zero, 8) else if n < 0 ∨ 1000 < n ∨ 1099511627776 < s.clock + n then (Store.zero, 2) else ({ s with clock := s.clock + n }, 0)
theorem pages_few {f : Flash} (h : f.ok = true) : f.pages.length ≤ 20 := by
  have hp : (f.pages.length : Int) ≤ f.most ∧ f.most ≤ 20 := by
    unfold Flash.ok at h
    simp only [Bool.and_eq_true, decide_eq_true_eq] at h
    omega
  omega
abbrev storeZt : Array Value := #[.int .i64 0, .int .i64 0, .int .i64 0, .int .i64 0, .int .i64 0, .int .i64 0, .int .i64 0, .int .i64 0, .slice none 0 0, .int .i64 0, .int .i64 0, .slice none 0 0]
def OutStore (t : Store) (n : Int) (w : World) (e : Ending) (w' : World) : Prop :=
  ∃ va vc fa fc, e = .returned (.tuple #[.agg (storeV t va vc fa fc), .int .i64 n]) ∧ StOwn w.heap.size w' t va vc fa fc ∧ Below w.heap.size w w'
theorem results_row_int {fn : Func} {p q : Tmp} {ty : TypeId} (h : fn.results = #[.cell p ty, .tmp q]) (tmps : Array Value) (w : World) (g : Nat) (cs : Array Value) (v : Value)
    (hp : tmps.getD p undef = .pointer (some ⟨g, 0, none⟩)) (hq : tmps.getD q undef = v) (hr : (loadVar ty ⟨g, 0, none⟩).run Tryd.prog w = .ok (.agg cs) w) :
    (results fn tmps).run Tryd.prog w = .ok (.tuple #[.agg cs, v]) w := by
  have hp' : tmps[p]?.getD undef = .pointer (some ⟨g, 0, none⟩) := by simpa using hp
  have hq' : tmps[q]?.getD undef = v := by simpa using hq
  simp [results, h, hp', hq', asAddr, hr]
theorem scheck_is (s : Store) (n : Int) (hn : Hid (s.chk = n)) (a fa : Option Addr) (c fc : Nat) (w : World) (hc : Chunks w) (hI : RowsAt w a 9 ItemR s.items) (hF : RowsAt w fa 2 (PageR w) s.flash.pages) (hl : s.items.length ≤ 9223372036854775806) (hfl : s.flash.pages.length ≤ 9223372036854775807) :
    Calls Tryd.prog 15 #[.agg (storeV s a c fa fc)] w fun e w' => e = .returned (.int .i64 n) ∧ Below w.heap.size w w' := by
  refine (store_Check s a fa c fc w hc hI hF (by omega) hfl).mono ?_
  rintro e w' ⟨rfl, hb⟩
  exact ⟨by rw [hn.out], hb⟩
theorem ok_nums {s : Store} (h : s.ok = true) : (0 ≤ s.clock ∧ s.clock ≤ 1099511627776) ∧ (0 ≤ s.cas ∧ s.cas ≤ 1099511627776) ∧ (0 ≤ s.uses ∧ s.uses ≤ 1099511627776) ∧ s.items.length ≤ 1000 ∧ s.flash.ok = true := by
  rw [ok_parts] at h
  simp only [Bool.and_eq_true] at h
  have h := h.1.1.1.1
  unfold headOK cnt at h
  simp only [Bool.and_eq_true, decide_eq_true_eq] at h
  have : maxN = 1099511627776 := rfl
  obtain ⟨⟨⟨⟨⟨h1, h2⟩, h3⟩, _⟩, h5⟩, h6⟩ := h
  exact ⟨by omega, by omega, by omega, h5, h6⟩
theorem tick_bad {s : Store} {n : Int} (h : s.ok = false) : s.tick n = (Store.zero, 8) := by unfold Store.tick; rw [if_pos h]
theorem tick_out {s : Store} {n : Int} (h : s.ok = true) (hn : n < 0 ∨ 1000 < n ∨ 1099511627776 < s.clock + n) : s.tick n = (Store.zero, 2) := by unfold Store.tick; rw [if_neg (by rw [h]; simp), if_pos hn]
theorem tick_good {s : Store} {n : Int} (h : s.ok = true) (hn : ¬ (n < 0 ∨ 1000 < n ∨ 1099511627776 < s.clock + n)) : s.tick n = ({ s with clock := s.clock + n }, 0) := by unfold Store.tick; rw [if_neg (by rw [h]; simp), if_neg hn]
/-- where a call ends with no store -/
theorem out_zero {t : Store} {n m : Int} {w w' : World} (h : (t, m) = (Store.zero, n)) (hb : Below w.heap.size w w') : OutStore t m w (.returned (.tuple #[.agg storeZt, .int .i64 n])) w' := by
  obtain ⟨rfl, rfl⟩ := Prod.mk.inj h
  exact ⟨none, 0, none, 0, rfl, StOwn.bare rfl rfl, hb⟩
theorem owns_kept {w w' : World} {base : Nat} {e : TypeId} {size : Nat} {v : Value} {n : Nat} {xs : List Value} (h : w.ownsRow base e size v n xs) (hb : ∀ k, base ≤ k → k < w.heap.size → w'.heap[k]? = w.heap[k]?) : w'.ownsRow base e size v n xs := by
  refine ⟨h.1, ?_⟩
  rcases h.2 with hn | ⟨g, cap, cur, rfl, hg, hh, rest⟩
  · exact .inl hn
  · exact .inr ⟨g, cap, cur, rfl, hg, by rw [hb g hg (Array.getElem?_eq_some_iff.1 hh).1]; exact hh, rest⟩
theorem PagesMid.stay {base : Nat} {w0 w w' : World} {v : Value} {ps : List Page} {vs : List Value} {k : Nat} (h : PagesMid base w0 w v ps vs k) (hb : ∀ k, base ≤ k → k < w.heap.size → w'.heap[k]? = w.heap[k]?) : PagesMid base w0 w' v ps vs k :=
  ⟨h.len, owns_kept h.row hb, fun j p x h1 h2 h3 => owns_kept (h.done j p x h1 h2 h3) hb, h.old, h.off, h.apart⟩
theorem out_own {s : Store} {m : Int} {B : Nat} {va fa : Option Addr} {vc fc : Nat} {fvs : List Value} {w w2 w' : World} (how : w2.ownsRow B 48 9 (.slice va s.items.length vc) s.items.length (s.items.flatMap itemCells))
    (hpm : PagesMid B w2 w2 (.slice fa s.flash.pages.length fc) s.flash.pages fvs s.flash.pages.length) (hab : ∀ k, B ≤ k → k < w2.heap.size → w'.heap[k]? = w2.heap[k]?) (hi : ∀ x ∈ s.items, ItemB x) (hp : ∀ p ∈ s.flash.pages, PageB p) (hl : s.items.length ≤ 1000) (hpl : s.flash.pages.length ≤ 20) (hB : w.heap.size ≤ B) (hb : Below w.heap.size w w') :
    OutStore { s with clock := m } 0 w (.returned (.tuple #[.agg (storeV { s with clock := m } va vc fa fc), .int .i64 0])) w' :=
  ⟨va, vc, fa, fc, rfl, ((StOwn.mk how ⟨_, hpm⟩ hi hp hl hpl : StOwn B w2 { s with clock := m } va vc fa fc).kept hab).mono hB, hb⟩
theorem storeSize : (Tryd.prog.info? 28).map (·.size) = some 12 := by kernel_rfl
theorem zero_one : storeZt.all (·.oneCell') = true := store_one Store.zero none none 0 0
theorem rowC (w : World) (g : Nat) (s : Store) (n : Int) (a fa : Option Addr) (c fc T : Nat) (h : w.heap[g]? = some (.cells (storeV s a c fa fc) T (0, 0))) :
    w.setCell ⟨g, 0, none⟩ (.int .i64 n) = w.setRow g (storeV { s with clock := n } a c fa fc) := by
  rw [setCell_eq_setRow w g 0 _ _ _ _ h]
  rfl
end Go.Proofs.YtbeegfkfpkfccaaDoor.D
