/-
  Plain law: what a request is, and what is wrong with one.
-/
import Derived.Test.YtjhfomihlobjgaaPStore
namespace Go.Proofs.Ytjhfomihlobjgaa.D
structure Req where
  kind : Int
  key : ByteArray
  keys : List ByteArray
  flags : Int
  exp : Int
  n : Int
  value : ByteArray
  quiet : Bool
/-- the keys of a Get; none of others -/
def Req.f0 (r : Req) : Bool := if r.kind = 1 then decide (1 ≤ r.keys.length ∧ r.keys.length ≤ 10) && r.keys.all keyOK else decide (r.keys.length = 0)
def Req.f1 (r : Req) : Bool := if 2 ≤ r.kind ∧ r.kind ≤ 11 then keyOK r.key else decide (r.key.size = 0)
def Req.f2 (r : Req) : Bool := decide (2 ≤ r.kind ∧ r.kind ≤ 7) || (decide (r.flags = 0 ∧ r.value.size = 0) && (decide (r.kind = 11) || decide (r.exp = 0)))
def Req.f3 (r : Req) : Bool := decide (r.kind = 7 ∨ r.kind = 9 ∨ r.kind = 10) || decide (r.n = 0)
def Req.f4 (r : Req) : Bool := !r.quiet || !decide (r.kind = 1 ∨ r.kind = 13)
/-- is the form well? -/
def Req.form (r : Req) : Bool := r.f0 && (r.f1 && (r.f2 && (r.f3 && r.f4)))
def Req.range (r : Req) : Bool := decide (0 ≤ r.flags ∧ r.flags ≤ 65535 ∧ 0 ≤ r.exp ∧ r.exp ≤ 1099511627776 ∧ 0 ≤ r.n ∧ r.n ≤ 1099511627776)
def Req.fault (r : Req) : Int :=
  if 1 ≤ r.kind ∧ r.kind ≤ 13 then (if r.form then (if r.range then (if 200 < r.value.size then 1 else 0) else 2) else 4) else 3
theorem fault_kind {r : Req} (h : ¬ (1 ≤ r.kind ∧ r.kind ≤ 13)) : r.fault = 3 := by unfold Req.fault; rw [if_neg h]
theorem fault_form {r : Req} (h : 1 ≤ r.kind ∧ r.kind ≤ 13) (h1 : r.form = false) : r.fault = 4 := by unfold Req.fault; rw [if_pos h, h1]; rfl
theorem fault_range {r : Req} (h : 1 ≤ r.kind ∧ r.kind ≤ 13) (h1 : r.form = true) (h2 : r.range = false) : r.fault = 2 := by unfold Req.fault; rw [if_pos h, h1, h2]; rfl
theorem fault_size {r : Req} (h : 1 ≤ r.kind ∧ r.kind ≤ 13) (h1 : r.form = true) (h2 : r.range = true) (h3 : 200 < r.value.size) : r.fault = 1 := by unfold Req.fault; rw [if_pos h, h1, h2, if_pos rfl, if_pos rfl, if_pos h3]
theorem fault_none {r : Req} (h : 1 ≤ r.kind ∧ r.kind ≤ 13) (h1 : r.form = true) (h2 : r.range = true) (h3 : ¬ 200 < r.value.size) : r.fault = 0 := by unfold Req.fault; rw [if_pos h, h1, h2, if_pos rfl, if_pos rfl, if_neg h3]
theorem form_0 {r : Req} (h : r.f0 = false) : r.form = false := by unfold Req.form; rw [h]; rfl
theorem form_1 {r : Req} (h : r.f1 = false) : r.form = false := by unfold Req.form; rw [h, Bool.false_and, Bool.and_false]
theorem form_2 {r : Req} (h : r.f2 = false) : r.form = false := by unfold Req.form; rw [h, Bool.false_and, Bool.and_false, Bool.and_false]
theorem form_3 {r : Req} (h : r.f3 = false) : r.form = false := by unfold Req.form; rw [h, Bool.false_and, Bool.and_false, Bool.and_false, Bool.and_false]
theorem form_4 {r : Req} (h : r.f4 = false) : r.form = false := by unfold Req.form; rw [h, Bool.and_false, Bool.and_false, Bool.and_false, Bool.and_false]
theorem form_all {r : Req} (h0 : r.f0 = true) (h1 : r.f1 = true) (h2 : r.f2 = true) (h3 : r.f3 = true) (h4 : r.f4 = true) : r.form = true := by unfold Req.form; rw [h0, h1, h2, h3, h4]; rfl
/-- what the first step takes over -/
def Req.sw (r : Req) (mk : ByteArray) (ml : Nat) (mq : Bool) : Prop :=
  (r.kind = 1 ∧ r.f0 = true ∧ mk = ⟨#[]⟩ ∧ ml = r.keys.length ∧ mq = false) ∨ (2 ≤ r.kind ∧ r.kind ≤ 11 ∧ r.f1 = true ∧ mk = r.key ∧ ml = 0 ∧ mq = r.quiet) ∨
  (r.kind = 12 ∧ mk = ⟨#[]⟩ ∧ ml = 0 ∧ mq = r.quiet) ∨ (r.kind = 13 ∧ mk = ⟨#[]⟩ ∧ ml = 0 ∧ mq = false)
def Req.st (r : Req) (mf me : Int) (mv : ByteArray) : Prop :=
  (2 ≤ r.kind ∧ r.kind ≤ 7 ∧ mf = r.flags ∧ me = r.exp ∧ mv = r.value) ∨ (¬ (2 ≤ r.kind ∧ r.kind ≤ 7) ∧ mf = 0 ∧ (r.kind = 11 ∧ me = r.exp ∨ r.kind ≠ 11 ∧ me = 0) ∧ mv = ⟨#[]⟩)
def Req.sn (r : Req) (mn : Int) : Prop := ((r.kind = 7 ∨ r.kind = 9 ∨ r.kind = 10) ∧ mn = r.n) ∨ (¬ (r.kind = 7 ∨ r.kind = 9 ∨ r.kind = 10) ∧ mn = 0)
theorem empty_iff (s : ByteArray) : (⟨#[]⟩ : ByteArray) = s ↔ s.size = 0 := by
  constructor
  · rintro rfl; rfl
  · intro h
    cases s with
    | mk d => exact congrArg ByteArray.mk (Array.eq_empty_of_size_eq_zero h).symm
theorem sw_0 {r : Req} {mk : ByteArray} {ml : Nat} {mq : Bool} (h : r.sw mk ml mq) : ml = r.keys.length ↔ r.f0 = true := by
  unfold Req.f0
  rcases h with ⟨h, h1, _, rfl, _⟩ | ⟨h, h', _, _, rfl, _⟩ | ⟨h, _, rfl, _⟩ | ⟨h, _, rfl, _⟩
  · unfold Req.f0 at h1; exact ⟨fun _ => h1, fun _ => rfl⟩
  all_goals (rw [if_neg (by omega), decide_eq_true_eq]; omega)
theorem sw_1 {r : Req} {mk : ByteArray} {ml : Nat} {mq : Bool} (h : r.sw mk ml mq) : mk = r.key ↔ r.f1 = true := by
  unfold Req.f1
  rcases h with ⟨h, _, rfl, _, _⟩ | ⟨h, h', h1, rfl, _, _⟩ | ⟨h, rfl, _, _⟩ | ⟨h, rfl, _, _⟩
  · rw [if_neg (by omega), decide_eq_true_eq]; exact empty_iff _
  · unfold Req.f1 at h1; exact ⟨fun _ => h1, fun _ => rfl⟩
  all_goals (rw [if_neg (by omega), decide_eq_true_eq]; exact empty_iff _)
theorem sw_4 {r : Req} {mk : ByteArray} {ml : Nat} {mq : Bool} (h : r.sw mk ml mq) : mq = r.quiet ↔ r.f4 = true := by
  unfold Req.f4
  rcases h with ⟨h, _, _, _, rfl⟩ | ⟨h, h', _, _, _, rfl⟩ | ⟨h, _, _, rfl⟩ | ⟨h, _, _, rfl⟩
  · rw [decide_eq_true (show r.kind = 1 ∨ r.kind = 13 by omega)]; cases r.quiet <;> simp
  · rw [decide_eq_false (show ¬ (r.kind = 1 ∨ r.kind = 13) by omega)]; simp
  · rw [decide_eq_false (show ¬ (r.kind = 1 ∨ r.kind = 13) by omega)]; simp
  · rw [decide_eq_true (show r.kind = 1 ∨ r.kind = 13 by omega)]; cases r.quiet <;> simp
theorem st_2 {r : Req} {mf me : Int} {mv : ByteArray} (h : r.st mf me mv) : (mf = r.flags ∧ me = r.exp ∧ mv = r.value) ↔ r.f2 = true := by
  unfold Req.f2
  rcases h with ⟨h, h', rfl, rfl, rfl⟩ | ⟨h, rfl, h1, rfl⟩
  · rw [decide_eq_true ⟨h, h'⟩]; simp
  · rw [decide_eq_false h, Bool.false_or, Bool.and_eq_true, decide_eq_true_eq, Bool.or_eq_true, decide_eq_true_eq, decide_eq_true_eq, empty_iff]
    rcases h1 with ⟨h1, rfl⟩ | ⟨h1, rfl⟩
    · exact ⟨fun ⟨a, _, c⟩ => ⟨⟨a.symm, c⟩, .inl h1⟩, fun ⟨⟨a, c⟩, _⟩ => ⟨a.symm, rfl, c⟩⟩
    · exact ⟨fun ⟨a, b, c⟩ => ⟨⟨a.symm, c⟩, .inr b.symm⟩, fun ⟨⟨a, c⟩, b⟩ => ⟨a.symm, (b.resolve_left h1).symm, c⟩⟩
theorem sn_3 {r : Req} {mn : Int} (h : r.sn mn) : mn = r.n ↔ r.f3 = true := by
  unfold Req.f3
  rcases h with ⟨h, rfl⟩ | ⟨h, rfl⟩
  · rw [decide_eq_true h]; simp
  · rw [decide_eq_false h, Bool.false_or, decide_eq_true_eq]; exact eq_comm
end Go.Proofs.Ytjhfomihlobjgaa.D
