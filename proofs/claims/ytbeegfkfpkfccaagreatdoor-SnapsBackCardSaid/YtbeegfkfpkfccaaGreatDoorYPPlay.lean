/-
 Plain law: requests over eight keys, and a store that answers them one by one. Nothing of the program stands here.
-/
import Derived.Test.YtbeegfkfpkfccaaGreatDoorYPlain
namespace Go.Proofs.YtbeegfkfpkfccaaGreatDoor.D
/-- what a step keeps: keys come from one, numbers rise by one at most, the clock stands -/
structure Step (ks : List Str) (s t : Store) : Prop where
 keys : ∀ y ∈ keysOf t.items, y ∈ keysOf s.items ∨ y ∈ ks
 cas : t.cas ≤ s.cas + 1
 clock : t.clock = s.clock
 most : t.most = s.most
 fmost : t.flash.most = s.flash.most
theorem Step.refl (ks : List Str) (s : Store) : Step ks s s := ⟨fun _ h => .inl h, by omega, rfl, rfl, rfl⟩
theorem Step.sub {ks : List Str} {s t : Store} (h : ∀ y ∈ keysOf t.items, y ∈ keysOf s.items) (h1 : t.cas = s.cas) (h2 : t.clock = s.clock) (h3 : t.most = s.most) (h4 : t.flash.most = s.flash.most) : Step ks s t :=
 ⟨fun y hy => .inl (h y hy), by omega, h2, h3, h4⟩
/-- a step behind one that leaves the numbers -/
theorem Step.behind {ks : List Str} {s t u : Store} (h : Step ks t u) (h0 : ∀ y ∈ keysOf t.items, y ∈ keysOf s.items) (h1 : t.cas = s.cas) (h2 : t.clock = s.clock) (h3 : t.most = s.most) (h4 : t.flash.most = s.flash.most) : Step ks s u :=
 ⟨fun y hy => (h.keys y hy).imp (h0 y) id, by have := h.cas; omega, h.clock.trans h2, h.most.trans h3, h.fmost.trans h4⟩
theorem keys_erase (l : List Item) (i : Nat) : ∀ y ∈ keysOf (l.eraseIdx i), y ∈ keysOf l := fun _ hy => ((List.eraseIdx_sublist l i).map (fun x : Item => bl x.key)).mem hy
theorem live_same (s : Store) (k : Str) : (∀ y ∈ keysOf (live s k).1.items, y ∈ keysOf s.items) ∧ (live s k).1.cas = s.cas ∧ (live s k).1.clock = s.clock ∧ (live s k).1.most = s.most ∧ (live s k).1.flash = s.flash := by
 rcases live_le (s := s) (k := k) with e | e
 ·rw [e]; exact ⟨fun _ h => h, rfl, rfl, rfl, rfl⟩
 ·rw [e]; exact ⟨keys_erase _ _, rfl, rfl, rfl, rfl⟩
theorem away_fmost {s : Store} (i : Nat) (h : SOk s) : (away s i).flash.most = s.flash.most ∧ (away s i).most = s.most := by
 unfold away
 split
 ·exact ⟨rfl, rfl⟩
 ·dsimp only
  split
  ·rename_i hc
   exact ⟨(append_zero h.flash hc.2).1.most, rfl⟩
  ·exact ⟨rfl, rfl⟩
theorem room_most {s : Store} (c : Int) (h : SOk s) : (room s c).1.flash.most = s.flash.most ∧ (room s c).1.most = s.most := by
 unfold room
 split
 ·exact ⟨rfl, rfl⟩
 ·split
  ·unfold addHeld; split
   ·exact ⟨rfl, rfl⟩
   ·split
    ·exact ⟨rfl, rfl⟩
    ·split <;> exact ⟨rfl, rfl⟩
  ·split
   ·exact away_fmost _ h
   ·exact ⟨rfl, rfl⟩
theorem put_step {s : Store} {x : Item} (h : SOk s) (hx : MayPut x) : Step [bl x.key] s (put s x).1 := by
 obtain ⟨g1, g2, g3, g4, g5⟩ := h.without (bl x.key)
 obtain ⟨r1, r2, r3, r4, r5, r6⟩ := g1.room hx.cls
 have hm := room_most x.cls g1
 have hw : (∀ y ∈ keysOf (D.without s (bl x.key)).items, y ∈ keysOf s.items) ∧ (D.without s (bl x.key)).most = s.most ∧ (D.without s (bl x.key)).flash = s.flash := by
  unfold D.without
  split
  ·exact ⟨keys_erase _ _, rfl, rfl⟩
  ·exact ⟨fun _ h => h, rfl, rfl⟩
 unfold put
 simp only
 split
 ·exact .sub hw.1 g3 g5 hw.2.1 (by rw [hw.2.2])
 ·split
  ·refine ⟨fun y hy => ?_, ?_, ?_, ?_, ?_⟩
   ·obtain ⟨z, hz, rfl⟩ := List.mem_map.1 hy
    rcases mem_insert (findKey_le _ _) hz with rfl | hz
    ·exact .inr (List.mem_singleton.2 rfl)
    ·exact .inl (hw.1 _ (r6.mem (List.mem_map.2 ⟨z, hz, rfl⟩)))
   ·show (D.room _ _).1.cas + 1 ≤ _; omega
   ·show (D.room _ _).1.clock = _; omega
   ·show (D.room _ _).1.most = _; rw [hm.2, hw.2.1]
   ·show (D.room _ _).1.flash.most = _; rw [hm.1, hw.2.2]
  ·exact .sub (fun y hy => hw.1 y (r6.mem hy)) (r3.trans g3) (r5.trans g5) (hm.2.trans hw.2.1) (by rw [hm.1, hw.2.2])
theorem asked_same (s : Store) (i : Nat) : keysOf (asked s i).items = keysOf s.items := keysOf_modify s.items i _ (fun _ => rfl)
theorem got_play {ks : List ByteArray} : ∀ {a : Store × List Hit}, (∀ y ∈ keysOf (ks.foldl got1 a).1.items, y ∈ keysOf a.1.items) ∧ (ks.foldl got1 a).1.cas = a.1.cas ∧ (ks.foldl got1 a).1.clock = a.1.clock ∧ (ks.foldl got1 a).1.most = a.1.most ∧ (ks.foldl got1 a).1.flash = a.1.flash := by
 induction ks with
 | nil => intro a; exact ⟨fun _ h => h, rfl, rfl, rfl, rfl⟩
 | cons k ks ih =>
  intro a
  have h1 : (∀ y ∈ keysOf (got1 a k).1.items, y ∈ keysOf a.1.items) ∧ (got1 a k).1.cas = a.1.cas ∧ (got1 a k).1.clock = a.1.clock ∧ (got1 a k).1.most = a.1.most ∧ (got1 a k).1.flash = a.1.flash := by
   unfold got1
   split
   ·exact live_same _ _
   ·split
    ·exact ⟨fun _ h => h, rfl, rfl, rfl, rfl⟩
    ·exact ⟨fun y hy => by rw [asked_same] at hy; exact hy, rfl, rfl, rfl, rfl⟩
  obtain ⟨i1, i2, i3, i4, i5⟩ := ih (a := got1 a k)
  rw [List.foldl_cons]
  exact ⟨fun y hy => h1.1 y (i1 y hy), i2.trans h1.2.1, i3.trans h1.2.2.1, i4.trans h1.2.2.2.1, i5.trans h1.2.2.2.2⟩
theorem setReq_step {s : Store} {r : Req} (h : SOk s) (hr : ROk r) (h2 : 2 ≤ r.kind) (h3 : r.kind ≤ 11) : Step [bl r.key] s (setReq s r).1 := by
 have hl := h.live (bl r.key)
 obtain ⟨l1, l2, l3, l4, l5⟩ := live_same s (bl r.key)
 have hst : Step [bl r.key] s (stored (live s (bl r.key)).1 (newItem (live s (bl r.key)).1 r)).1 := (put_step hl (may_new hl hr h2 h3)).behind l1 l2 l3 l4 (by rw [l5])
 have hno : Step [bl r.key] s (live s (bl r.key)).1 := .sub l1 l2 l3 l4 (by rw [l5])
 unfold setReq
 simp only
 split
 ·split
  ·exact hno
  ·exact hst
 ·split
  ·split
   ·exact hst
   ·exact hno
  ·split
   ·split
    ·rename_i x hx
     obtain ⟨i, _, hi, rfl⟩ := bind_some hx
     split
     ·exact hno
     ·rename_i hsz
      exact (put_step hl (may_grown (hl.items _ (List.getElem_mem hi)) hr h2 h3 hsz)).behind l1 l2 l3 l4 (by rw [l5])
    ·exact hno
   ·split
    ·split
     ·split
      ·exact hno
      ·exact hst
     ·exact hno
    ·exact hst
theorem countReq_step {s : Store} {r : Req} (h : SOk s) (hr : ROk r) (ks : List Str) : Step ks s (countReq s r).1 := by
 have hl := h.live (bl r.key)
 obtain ⟨l1, l2, l3, l4, l5⟩ := live_same s (bl r.key)
 have hno : Step ks s (live s (bl r.key)).1 := .sub l1 l2 l3 l4 (by rw [l5])
 unfold countReq
 simp only
 split
 ·exact hno
 ·rename_i x hx
  obtain ⟨i, _, hi, rfl⟩ := bind_some hx
  split
  ·exact hno
  ·rename_i hn
   have hn' := (numOf_in _ hn).1
   have hp := (put_step hl (may_count (hl.items _ (List.getElem_mem hi)) (counted_in hr hn'))).behind l1 l2 l3 l4 (by rw [l5])
   refine ⟨fun y hy => ?_, hp.cas, hp.clock, hp.most, hp.fmost⟩
   rcases hp.keys y hy with h1 | h1
   ·exact .inl h1
   ·rw [List.mem_singleton] at h1
    refine .inl (l1 y ?_)
    rw [h1]
    exact List.mem_map.2 ⟨_, List.getElem_mem hi, rfl⟩
theorem goneReq_step {s : Store} {r : Req} (ks : List Str) : Step ks s (goneReq s r).1 := by
 obtain ⟨l1, l2, l3, l4, l5⟩ := live_same s (bl r.key)
 unfold goneReq
 simp only
 split
 ·exact .sub l1 l2 l3 l4 (by rw [l5])
 ·rename_i i hi
  split
  ·refine .sub (fun y hy => l1 y ?_) l2 l3 l4 (show (live s (bl r.key)).1.flash.most = _ by rw [l5])
   have e := keysOf_modify (asked (live s (bl r.key)).1 i).items i (fun x => { x with till := untilOf (asked (live s (bl r.key)).1 i) r.exp }) (fun _ => rfl)
   rw [← asked_same (live s (bl r.key)).1 i, ← e]; exact hy
  ·exact .sub (fun y hy => l1 y (keys_erase _ _ y hy)) l2 l3 l4 (show (live s (bl r.key)).1.flash.most = _ by rw [l5])
theorem doReq_step {s : Store} {r : Req} (h : SOk s) (hr : ROk r) : Step (if 2 ≤ r.kind ∧ r.kind ≤ 11 then [bl r.key] else []) s (doReq s r).1 := by
 have hk := hr.kind
 obtain ⟨ks, hks⟩ : ∃ ks, ks = if 2 ≤ r.kind ∧ r.kind ≤ 11 then [bl r.key] else [] := ⟨_, rfl⟩
 rw [← hks]
 unfold doReq
 split
 ·obtain ⟨g1, g2, g3, g4, g5⟩ := got_play (ks := r.keys) (a := (s, []))
  exact .sub g1 g2 g3 g4 (show (List.foldl got1 (s, []) r.keys).1.flash.most = _ by rw [g5])
 ·split
  ·exact countReq_step h hr _
  ·split
   ·exact .sub (fun y hy => by cases hy) rfl rfl rfl rfl
   ·split
    ·exact .refl _ _
    ·split
     ·exact goneReq_step _
     ·rw [hks, if_pos (by omega)]
      exact setReq_step h hr (by omega) (by omega)
/-- eight keys -/
def K8 : List ByteArray := [⟨#[97]⟩, ⟨#[98]⟩, ⟨#[99, 99]⟩, ⟨#[107, 101, 121]⟩, ⟨#[108, 111, 110, 103, 45, 107, 101, 121, 45, 110, 97, 109, 101]⟩, ⟨#[120, 47, 121]⟩, ⟨#[122, 57]⟩, ⟨#[126]⟩]
theorem K8_ok : ∀ k ∈ K8, keyOK k = true := by decide
/-- a request over them -/
structure Req8 (q : Req) : Prop where
 fault : q.fault = 0
 key : 2 ≤ q.kind ∧ q.kind ≤ 11 → q.key ∈ K8
theorem keyOK_20 {k : ByteArray} (h : keyOK k = true) : k.size ≤ 20 := (keyOK_len h).2
/-- a request is quiet, or it isn't -/
theorem fault_quiet {r : Req} (h : r.fault = 0) (hk : r.kind ≠ 1 ∧ r.kind ≠ 13) (b : Bool) : ({ r with quiet := b } : Req).fault = 0 := by
 obtain ⟨h1, h2, h3, h4⟩ := fault_zero h
 unfold Req.form at h2
 simp only [Bool.and_eq_true] at h2
 refine fault_none h1 (form_all h2.1 h2.2.1 h2.2.2.1 h2.2.2.2.1 ?_) h3 (by show ¬ 200 < r.value.size; omega)
 show (!b || !decide (r.kind = 1 ∨ r.kind = 13)) = true
 rw [decide_eq_false (show ¬ (r.kind = 1 ∨ r.kind = 13) by omega)]
 simp
/-- behind so many rounds -/
structure Played (m c : Nat) (p f : Int) (s : Store) : Prop where
 ok : SOk s
 uses : s.uses ≤ 10 * m
 cas : s.cas ≤ m
 clock : s.clock ≤ 8 * c
 keys : ∀ y ∈ keysOf s.items, y ∈ K8.map bl
 most : s.most = p
 fmost : s.flash.most = f
theorem Played.le {m n c d : Nat} {p f : Int} {s : Store} (h : Played m c p f s) (hn : m ≤ n) (hd : c ≤ d) : Played n d p f s := ⟨h.ok, by have := h.uses; omega, by have := h.cas; omega, by have := h.clock; omega, h.keys, h.most, h.fmost⟩
theorem new_is {p f : Int} (hp : 0 ≤ p ∧ p ≤ 40) (hf : 0 ≤ f ∧ f ≤ 20) : newS p f = (⟨0, 0, 0, p, 0, 0, 0, 0, [], ⟨f, 1, []⟩⟩, 0) := newS_good hp.1 hp.2 hf
theorem Played.zero {p f : Int} (hp : 0 ≤ p ∧ p ≤ 40) (hf : 0 ≤ f ∧ f ≤ 20) : Played 0 0 p f ⟨0, 0, 0, p, 0, 0, 0, 0, [], ⟨f, 1, []⟩⟩ := by
 have hm : maxN = 1099511627776 := rfl
 refine ⟨⟨by dsimp only; omega, by dsimp only; omega, by dsimp only; omega, hp, by simp, ?_, by dsimp only; omega, by dsimp only; omega, by dsimp only; omega, by dsimp only; omega, by simp, rfl, ?_, ?_, ?_, ?_, by dsimp only; omega⟩, by dsimp only; omega, by dsimp only; omega, by dsimp only; omega, fun y hy => by simp [keysOf] at hy, rfl, rfl⟩
 ·exact ok_mk ⟨hf.1, hf.2, by simpa using hf.1, by simp, by simp [hm]⟩ rfl
 all_goals simp [countIn]
/-- a request is answered -/
theorem Played.do {m c : Nat} {p f : Int} {s : Store} {r : Req} (h : Played m c p f s) (hr : Req8 r) (hm : m ≤ 100000) : ∃ t x, doOf s r = (t, x, 0) ∧ Played (m + 1) c p f t := by
 obtain ⟨h1, h2, h3⟩ := do_is h.ok hr.fault (by have := h.uses; omega)
 have hs := doReq_step h.ok (rok hr.fault)
 refine ⟨_, _, h1, h2, by have := h.uses; omega, by have := h.cas; have := hs.cas; omega, by rw [hs.clock]; have := h.clock; omega, fun y hy => ?_, hs.most.trans h.most, hs.fmost.trans h.fmost⟩
 rcases hs.keys y hy with h4 | h4
 ·exact h.keys y h4
 ·split at h4
  ·rename_i hk
   rw [List.mem_singleton] at h4
   rw [h4]; exact List.mem_map.2 ⟨_, hr.key hk, rfl⟩
  ·cases h4
/-- time goes on -/
theorem Played.tick {m c : Nat} {p f n : Int} {s : Store} (h : Played m c p f s) (hn : 0 ≤ n ∧ n ≤ 8) (hc : c ≤ 100000) : Played m (c + 1) p f { s with clock := s.clock + n } := by
 have hm : maxN = 1099511627776 := rfl
 have h1 := h.ok.clock
 have h2 := h.clock
 have k := h.ok
 refine ⟨⟨by dsimp only; omega, k.cas, k.uses, k.most, k.len, k.flash, k.h0, k.h1, k.h2, k.h3, fun x hx => itemOK_up (k.items x hx) (Int.le_refl _) (Int.le_refl _) (fun _ => rfl), k.rise, k.c0, k.c1, k.c2, k.c3, k.sum⟩, h.uses, h.cas, by show s.clock + n ≤ _; omega, h.keys, h.most, h.fmost⟩
end Go.Proofs.YtbeegfkfpkfccaaGreatDoor.D

