/-
  A map that reads as what is on flash; appends, for this law.
-/
import Derived.Test.YtjhfomihlobjgaaCPlaceKey
import Derived.Test.YtjhfomihlobjgaaPKeep
import Derived.Test.YtjhfomihlobjgaaCAppend
import Derived.Test.YtjhfomihlobjgaaCFRead
import Derived.Test.YtjhfomihlobjgaaCNew
namespace Go.Proofs.Ytjhfomihlobjgaa.D
open Go.RowKit Go.Maps
/-- a datum that holds these values at these places -/
structure MapIs (D : DataW Unit) (R : Place → Option Str) : Prop where
  has : ∀ q : Place, I64 q.page → I64 q.off → Maps.has D (klOf q) = (R q).isSome
  val : ∀ (q : Place) (s : Str), I64 q.page → I64 q.off → R q = some s → ∀ z, D.atKey (klOf q) z = .lit (.string s)
  key : ∀ kl, Maps.has D kl = true → ∃ q : Place, kl = klOf q ∧ I64 q.page ∧ I64 q.off
theorem MapIs.put {D : DataW Unit} {R : Place → Option Str} (h : MapIs D R) (hD : IsMap D) (p : Place) (h1 : I64 p.page) (h2 : I64 p.off) (s : Str) : MapIs (D.put (klOf p) (.lit (.string s))) (fun q => if q = p then some s else R q) := by
  refine ⟨fun q q1 q2 => ?_, fun q t q1 q2 hq z => ?_, fun kl hk => ?_⟩
  · by_cases e : q = p
    · subst e
      rw [has_put_same hD (kl_lit q q1 q2)]; simp
    · rw [has_put_other (fun x => e (kl_inj q1 q2 h1 h2 x)), h.has q q1 q2, if_neg e]
  · by_cases e : q = p
    · subst e
      simp at hq
      subst hq
      exact atKey_put_same hD (kl_lit q q1 q2) _ _
    · simp only [e, if_false] at hq
      rw [atKey_put_other (fun x => e (kl_inj q1 q2 h1 h2 x))]
      exact h.val q t q1 q2 hq z
  · by_cases e : kl = klOf p
    · exact ⟨p, e, h1, h2⟩
    · rw [has_put_other e] at hk
      exact h.key kl hk
theorem MapIs.del {D : DataW Unit} {R : Place → Option Str} (h : MapIs D R) (p : Place) (h1 : I64 p.page) (h2 : I64 p.off) : MapIs (D.del (klOf p)) (fun q => if q = p then none else R q) := by
  refine ⟨fun q q1 q2 => ?_, fun q t q1 q2 hq z => ?_, fun kl hk => ?_⟩
  · by_cases e : q = p
    · subst e
      rw [has_del_same]; simp
    · rw [has_del_other (fun x => e (kl_inj q1 q2 h1 h2 x)), h.has q q1 q2, if_neg e]
  · by_cases e : q = p
    · subst e; simp at hq
    · simp only [e, if_false] at hq
      rw [atKey_del_other (fun x => e (kl_inj q1 q2 h1 h2 x))]
      exact h.val q t q1 q2 hq z
  · by_cases e : kl = klOf p
    · exact ⟨p, e, h1, h2⟩
    · rw [has_del_other e] at hk
      exact h.key kl hk
theorem MapIs.cong {D : DataW Unit} {R R' : Place → Option Str} (h : MapIs D R) (he : ∀ q, I64 q.page → I64 q.off → R' q = R q) : MapIs D R' :=
  ⟨fun q q1 q2 => by rw [he q q1 q2]; exact h.has q q1 q2, fun q s q1 q2 hq z => h.val q s q1 q2 (by rw [← he q q1 q2]; exact hq) z, h.key⟩
theorem MapIs.nil : MapIs (.map []) (fun _ => none) := by
  refine ⟨fun q _ _ => rfl, fun q s _ _ h => ?_, fun kl h => ?_⟩
  · cases h
  · rw [has_eq] at h; cases h
def rowV (a b c : Value) : Value := .agg #[a, b, c]
theorem ok_pageB {g : Flash} (h : g.ok = true) : ∀ p ∈ g.pages, PageB p := by
  obtain ⟨⟨a1, a2, a3, a4, a5⟩, a6⟩ := fok_parts h
  have hN : maxN = 1099511627776 := rfl
  have hr : reachBytes = 140737488351232 := rfl
  intro p hp
  obtain ⟨h1, h2, h3, _, _, h6⟩ := pages_num a6 p hp
  unfold PageB I64
  omega
theorem app_is (f g : Flash) (s : ByteArray) (p : Place) (gone : Int) (ha : Hid (f.append (bl s) = (g, p, gone, 0))) (m n : Int) (l : Nat) (hm : Hid (m = f.most)) (hn : Hid (n = f.next)) (hl : Hid (l = f.pages.length)) (a : Option Addr) (c : Nat) (w : World) (h : RowsAt w a 2 (PageR w) f.pages) :
    Calls Try.prog 31 #[.agg #[.int .i64 m, .int .i64 n, .slice a l c], .string s] w fun e w' => ∃ va vc vs, e = .returned (.tuple #[.agg #[.int .i64 g.most, .int .i64 g.next, .slice va g.pages.length vc], .agg #[.int .i64 p.page, .int .i64 p.off], .int .i64 gone, .int .i64 0]) ∧ PagesOwn w.heap.size w' (.slice va g.pages.length vc) g.pages vs ∧ Below w.heap.size w w' := by
  have := flash_Append f s a c w h
  rw [← hm.out, ← hn.out, ← hl.out] at this
  refine this.mono ?_
  rintro e w' ⟨v, vs, rfl, hp, hb⟩
  rw [ha.out] at hp ⊢
  obtain ⟨va, vc, rfl⟩ := own_slice hp.row
  exact ⟨va, vc, vs, rfl, hp, hb⟩
theorem app_no (f : Flash) (s : ByteArray) (E : Int) (ha : Hid (f.append (bl s) = (Flash.zero, ⟨0, 0⟩, 0, E))) (m n : Int) (l : Nat) (hm : Hid (m = f.most)) (hn : Hid (n = f.next)) (hl : Hid (l = f.pages.length)) (a : Option Addr) (c : Nat) (w : World) (h : RowsAt w a 2 (PageR w) f.pages) :
    Calls Try.prog 31 #[.agg #[.int .i64 m, .int .i64 n, .slice a l c], .string s] w fun e w' => ∃ xa xc, e = .returned (.tuple #[.agg #[.int .i64 0, .int .i64 0, .slice xa 0 xc], .agg #[.int .i64 0, .int .i64 0], .int .i64 0, .int .i64 E]) ∧ Below w.heap.size w w' := by
  have := flash_Append f s a c w h
  rw [← hm.out, ← hn.out, ← hl.out] at this
  refine this.mono ?_
  rintro e w' ⟨v, vs, rfl, hp, hb⟩
  rw [ha.out] at hp ⊢
  obtain ⟨xa, xc, rfl⟩ := own_slice hp.row
  exact ⟨xa, xc, rfl, hb⟩
/-- while keys of a page are struck: what is left to come still reads -/
def duringR (f : Flash) (gone : Int) (left : Lit → Bool) (q : Place) : Option Str := if q.page = gone ∧ left (klOf q) = false then none else f.rd q
theorem during_start {D : DataW Unit} {f : Flash} (h : MapIs D f.rd) (gone : Int) : MapIs D (duringR f gone (Maps.has D)) :=
  h.cong (fun q q1 q2 => by
    unfold duringR
    split
    · rename_i hc
      have := h.has q q1 q2
      rw [hc.2] at this
      cases hx : f.rd q
      · rfl
      · rw [hx] at this; cases this
    · rfl)
theorem same_no {p q : Place} (h1 : I64 p.page) (h2 : I64 p.off) (h3 : I64 q.page) (h4 : I64 q.off) (h : p ≠ q) : (klOf p).sameKey (klOf q) = false := by
  cases hx : (klOf p).sameKey (klOf q)
  · rfl
  · exact absurd (kl_inj h1 h2 h3 h4 (WideAt.sameKey_eq hx)) h
theorem during_stays {D : DataW Unit} {f : Flash} {gone : Int} {left : Lit → Bool} (h : MapIs D (duringR f gone left)) (p : Place) (h1 : I64 p.page) (h2 : I64 p.off) (hp : p.page ≠ gone) : MapIs D (duringR f gone (fun z => left z && !z.sameKey (klOf p))) :=
  h.cong (fun q q1 q2 => by
    unfold duringR
    by_cases e : q.page = gone
    · have hne : q ≠ p := by rintro rfl; exact hp e
      simp [e, same_no q1 q2 h1 h2 hne]
    · simp [e])
theorem during_struck {D : DataW Unit} {f : Flash} {gone : Int} {left : Lit → Bool} (h : MapIs D (duringR f gone left)) (p : Place) (h1 : I64 p.page) (h2 : I64 p.off) (hp : p.page = gone) : MapIs (D.del (klOf p)) (duringR f gone (fun z => left z && !z.sameKey (klOf p))) :=
  (h.del p h1 h2).cong (fun q q1 q2 => by
    unfold duringR
    by_cases e : q = p
    · subst e
      simp [hp, WideAt.sameKey_self (kl_lit q q1 q2)]
    · simp [e, same_no q1 q2 h1 h2 e])
theorem during_end {D : DataW Unit} {f : Flash} {gone : Int} {left : Lit → Bool} (h : MapIs D (duringR f gone left)) (hl : ∀ kl, left kl = false) : MapIs D (fun q => if q.page = gone then none else f.rd q) :=
  h.cong (fun q _ _ => by unfold duringR; simp [hl])
theorem plain_string {v : Value} {y : DataW Unit × List MemPlace} (h : plainElem Try.prog 9 v = some y) : ∃ s, v = .string s := by
  cases v <;> first | exact ⟨_, rfl⟩ | simp [plainElem, Try.underlying9] at h
theorem str_val {v : Value} {l : Str} {ps : List MemPlace} (h : plainElem (H := Unit) Try.prog 9 v = some (.lit (.string l), ps)) : v = .string ⟨l.toArray⟩ := by
  obtain ⟨s, rfl⟩ := plain_string h
  have hs : s.size ≤ maxLen := by
    unfold plainElem at h
    simp only [Try.underlying9] at h
    by_cases hx : s.size ≤ maxLen
    · exact hx
    · simp [hx] at h
  rw [plainElem_string Try.underlying9 hs] at h
  simp at h
  rw [← h.1, ← bl, mk_bl]
def optS : Option Str → ByteArray
  | some s => ⟨s.toArray⟩
  | none => ⟨#[]⟩
theorem list_look {ops : Array Oper} {rest : List Oper} {o : Oper} {a : Act} {Q : Exit → Act → World → Prop} (w : World) (hgd : o.guard = none) (m x : Operand) (hop : o.op = Op.lookup 64 m x true)
    (b n : Nat) (D : DataW Unit) (R : Place → Option Str) (hm : a.eval m = .map (some b)) (hown : w.ownsMap Try.prog 55 (plainElem Try.prog 9) b n D) (q : Place) (q1 : I64 q.page) (q2 : I64 q.off)
    (hx : a.eval x = .agg #[.int .i64 q.page, .int .i64 q.off]) (hMI : MapIs D R) (s : ByteArray) (t : Bool) (hs : s = optS (R q)) (ht : t = (R q).isSome)
    (hK : wpList Try.prog ops Q rest (a.put o.dst (.tuple #[.string s, .bool t])) w) : wpList Try.prog ops Q (o :: rest) a w := by
  refine wpList_lookup_own_ok w hgd m x 64 hop 55 9 placeLaw Try.underlying64 _ (Try.zeroValue9 w) (.lit (.string [])) [] (plainElem_string Try.underlying9 (s := ⟨#[]⟩) (by decide)) b n D hm hown _ (klOf q) hx (key_is q q1 q2) ?_
  intro v ps hv
  have h1 := hMI.has q q1 q2
  rw [h1, ← ht]
  have h2 : v = .string s := by
    rw [hs]
    cases hr : R q with
    | none =>
      rw [hr] at h1
      rw [atKey_of_not_has h1] at hv
      exact str_val hv
    | some l =>
      rw [hMI.val q l q1 q2 hr] at hv
      exact str_val hv
  rw [h2]
  exact hK
theorem appended_in {f g : Flash} {s : Str} {p : Place} {gone : Int} (h : Appended f g s p gone) : I64 p.page ∧ I64 p.off := by
  obtain ⟨i, hi, h1, h2, h3, _⟩ := rd_some h.ok (q := p) (s := s) (by rw [h.rd]; simp)
  obtain ⟨⟨_, _, a3, a4, a5⟩, a6⟩ := fok_parts h.ok
  have hN : maxN = 1099511627776 := rfl
  have := pages_num a6 _ (List.getElem_mem hi)
  unfold I64
  omega
def rawR (cs : List Value) (r : Int × Int × Int × Int) : Prop := cs = [.int .i64 r.1, .int .i64 r.2.1, .int .i64 r.2.2.1, .int .i64 r.2.2.2] ∧ I64 r.1 ∧ I64 r.2.1 ∧ I64 r.2.2.1 ∧ I64 r.2.2.2
end Go.Proofs.Ytjhfomihlobjgaa.D
