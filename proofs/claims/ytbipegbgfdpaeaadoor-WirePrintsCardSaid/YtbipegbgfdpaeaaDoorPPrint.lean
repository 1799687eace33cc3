/-
  Plain law: a reply's text. Nothing of the program stands here.
-/
import Derived.Test.YtbipegbgfdpaeaaDoorPStore
import Derived.Test.YtbipegbgfdpaeaaDoorPItoa
namespace Go.Proofs.YtbipegbgfdpaeaaDoor.D
structure Hit where
  key : ByteArray
  flags : Int
  cas : Int
  value : ByteArray
structure Reply where
  kind : Int
  n : Int
  hits : List Hit
def Reply.zero : Reply := ⟨0, 0, []⟩
def hitOK (h : Hit) : Bool := keyOK h.key && decide (h.value.size ≤ 200)
def sVALUE : ByteArray := ⟨#[86, 65, 76, 85, 69, 32]⟩
def sBlank : ByteArray := ⟨#[32]⟩
def sLine : ByteArray := ⟨#[10]⟩
def sEND : ByteArray := ⟨#[69, 78, 68, 10]⟩
def hitS (h : Hit) : ByteArray := sVALUE ++ h.key ++ sBlank ++ decS h.flags ++ sBlank ++ decS h.value.size ++ sBlank ++ decS h.cas ++ sLine ++ h.value ++ sLine
def hitsS (l : List Hit) : ByteArray := l.foldl (fun s h => s ++ hitS h) ByteArray.empty
theorem hitsS_snoc (l : List Hit) (k : Nat) (hk : k < l.length) : hitsS (l.take (k + 1)) = hitsS (l.take k) ++ hitS l[k] := by
  unfold hitsS
  rw [List.take_succ_eq_append_getElem hk, List.foldl_append]
  rfl
def HitB (h : Hit) : Prop := -9223372036854775808 ≤ h.flags ∧ h.flags ≤ 9223372036854775807 ∧ -9223372036854775808 ≤ h.cas ∧ h.cas ≤ 9223372036854775807
theorem keyOK_size {s : ByteArray} (h : keyOK s = true) : s.size ≤ 20 := by
  unfold keyOK keyL at h
  simp only [Bool.and_eq_true, decide_eq_true_eq] at h
  have : (bl s).length = s.size := by simp [bl]
  omega
theorem hitS_size {h : Hit} (hb : HitB h) (hk : h.key.size ≤ 20) (hv : h.value.size ≤ 200) : (hitS h).size ≤ 294 := by
  obtain ⟨b1, b2, b3, b4⟩ := hb
  have h1 := decL_le b1 b2
  have h2 := decL_le b3 b4
  have h3 := decL_le (n := h.value.size) (by omega) (by omega)
  have e1 : sVALUE.size = 6 := rfl
  have e2 : sBlank.size = 1 := rfl
  have e3 : sLine.size = 1 := rfl
  unfold hitS
  simp only [ByteArray.size_append, decS_size, e1, e2, e3]
  omega
theorem hitsS_size {l : List Hit} (hb : ∀ h ∈ l, HitB h) : ∀ k, k ≤ l.length → (l.take k).all hitOK = true → (hitsS (l.take k)).size ≤ 294 * k := by
  intro k
  induction k with
  | zero => intro _ _; simp [hitsS]
  | succ k ih =>
    intro hk ha
    have hk' : k < l.length := by omega
    rw [List.take_succ_eq_append_getElem hk', List.all_append, Bool.and_eq_true] at ha
    have h1 := ih (by omega) ha.1
    have ho : hitOK l[k] = true := by simpa using ha.2
    unfold hitOK at ho
    rw [Bool.and_eq_true, decide_eq_true_eq] at ho
    have h2 := hitS_size (hb _ (List.getElem_mem hk')) (keyOK_size ho.1) ho.2
    rw [hitsS_snoc _ _ hk', ByteArray.size_append]
    omega
def toldS (k : Int) : ByteArray :=
  if k = 2 then ⟨#[83, 84, 79, 82, 69, 68]⟩ else if k = 3 then ⟨#[78, 79, 84, 95, 83, 84, 79, 82, 69, 68]⟩ else if k = 4 then ⟨#[69, 88, 73, 83, 84, 83]⟩ else
  if k = 5 then ⟨#[78, 79, 84, 95, 70, 79, 85, 78, 68]⟩ else if k = 6 then ⟨#[68, 69, 76, 69, 84, 69, 68]⟩ else if k = 8 then ⟨#[84, 79, 85, 67, 72, 69, 68]⟩ else
  if k = 9 then ⟨#[79, 75]⟩ else if k = 10 then ⟨#[69, 82, 82, 79, 82]⟩ else
  if k = 11 then ⟨#[83, 69, 82, 86, 69, 82, 95, 69, 82, 82, 79, 82, 32, 110, 111, 32, 114, 111, 111, 109]⟩ else
  if k = 12 then ⟨#[67, 76, 73, 69, 78, 84, 95, 69, 82, 82, 79, 82, 32, 110, 111, 32, 110, 117, 109, 98, 101, 114]⟩ else ByteArray.empty
def replyText (r : Reply) : ByteArray × Int :=
  if ¬ (1 ≤ r.kind ∧ r.kind ≤ 12) then (ByteArray.empty, 3)
  else if (r.kind ≠ 1 ∧ 0 < r.hits.length) ∨ (r.kind ≠ 7 ∧ r.n ≠ 0) ∨ 10 < r.hits.length then (ByteArray.empty, 4)
  else if r.kind = 7 then (decS r.n ++ sLine, 0)
  else if r.kind ≠ 1 then (toldS r.kind ++ sLine, 0)
  else if r.hits.all hitOK = true then (hitsS r.hits ++ sEND, 0)
  else (ByteArray.empty, 4)
theorem text_kind {r : Reply} (h : ¬ (1 ≤ r.kind ∧ r.kind ≤ 12)) : replyText r = (ByteArray.empty, 3) := by unfold replyText; rw [if_pos h]
theorem text_form {r : Reply} (h : 1 ≤ r.kind ∧ r.kind ≤ 12) (hf : (r.kind ≠ 1 ∧ 0 < r.hits.length) ∨ (r.kind ≠ 7 ∧ r.n ≠ 0) ∨ 10 < r.hits.length) : replyText r = (ByteArray.empty, 4) := by
  unfold replyText; rw [if_neg (fun x => x h), if_pos hf]
theorem text_rest {r : Reply} (h : 1 ≤ r.kind ∧ r.kind ≤ 12) (hf : ¬ ((r.kind ≠ 1 ∧ 0 < r.hits.length) ∨ (r.kind ≠ 7 ∧ r.n ≠ 0) ∨ 10 < r.hits.length)) :
    replyText r = (if r.kind = 7 then (decS r.n ++ sLine, 0) else if r.kind ≠ 1 then (toldS r.kind ++ sLine, 0) else if r.hits.all hitOK = true then (hitsS r.hits ++ sEND, 0) else (ByteArray.empty, 4)) := by
  unfold replyText; rw [if_neg (fun x => x h), if_neg hf]
theorem all_hit {l : List Hit} {k : Nat} (hk : k < l.length) (h : (l.take k).all hitOK = true) (hx : hitOK l[k] = true) : (l.take (k + 1)).all hitOK = true := by
  rw [List.take_succ_eq_append_getElem hk, List.all_append, h]; simp [hx]
theorem all_no {l : List Hit} {k : Nat} (hk : k < l.length) (hx : hitOK l[k] = false) : l.all hitOK = false := by
  rw [Bool.eq_false_iff]; intro h
  have := List.all_eq_true.1 h _ (List.getElem_mem hk)
  rw [hx] at this; cases this
theorem ba_assoc (a b c : ByteArray) : a ++ b ++ c = a ++ (b ++ c) := by
  apply ByteArray.ext; simp [Array.append_assoc]
theorem hitS_left (s : ByteArray) (h : Hit) : s ++ sVALUE ++ h.key ++ sBlank ++ decS h.flags ++ sBlank ++ decS h.value.size ++ sBlank ++ decS h.cas ++ sLine ++ h.value ++ sLine = s ++ hitS h := by
  unfold hitS; simp only [ba_assoc]
end Go.Proofs.YtbipegbgfdpaeaaDoor.D
