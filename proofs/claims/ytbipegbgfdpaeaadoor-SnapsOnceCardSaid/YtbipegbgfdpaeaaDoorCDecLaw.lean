/-
  Decoding, for laws: contracts with their answers hidden; bytes copied behind nothing; bounds.
-/
import Derived.Test.YtbipegbgfdpaeaaDoorCDecode
import Derived.Test.YtbipegbgfdpaeaaDoorCDoor
import Derived.Test.YtbipegbgfdpaeaaDoorPOnce
namespace Go.Proofs.YtbipegbgfdpaeaaDoor.D
open Go.RowKit Go.ChangeShapes Go.WideShapes Go.Deep Go.Joins
theorem decode_is (l : Str) (n : Nat) (t : Store) (m : Int) (hn : Hid (n = l.length)) (ht : Hid ((t, m) = decode l)) (a : Option Addr) (c : Nat) (w : World) (hB : BytesAt w a l) (h1 : n ≤ c) (h2 : c ≤ 9223372036854775807) (hC : Chunks w) :
    Calls Tryd.prog 19 #[.slice a n c] w (OutStore t m w) := by
  have hn := hn.out
  subst hn
  have := snap_Decode l a c w hB h1 h2 hC
  rwa [← ht.out] at this
theorem list_bytes {ops : Array Oper} {rest : List Oper} {o : Oper} {a : Act} {Q : Exit → Act → World → Prop} (W : World) (hgd : o.guard = none) (s x : Operand)
    (ho : o.op = .call { callee := .builtin .append, args := #[s, x], argTypes := #[38, 38] }) (c n : Nat) (ad : Option Addr) (l : Str) (hnl : Hid (n = l.length))
    (hs : a.eval s = .slice none 0 0) (hx : a.eval x = .slice ad n c) (hn : BytesAt W ad l)
    (hk : n ≤ 140737488355328)
    (h : ∀ ua uc w', BytesAt w' ua l → n ≤ uc → uc ≤ 9223372036854775807 → Below W.heap.size W w' → wpList Tryd.prog ops Q rest (a.put o.dst (.slice ua n uc)) w') :
    wpList Tryd.prog ops Q (o :: rest) a W := by
  have hnl := hnl.out
  subst hnl
  obtain ⟨j0, hj, hw0, hw1, hw2⟩ := info_parts infoByte
  rcases Nat.eq_zero_or_pos l.length with h0 | h0
  · obtain rfl := List.eq_nil_of_length_eq_zero h0
    refine wpList_plain hgd fun K hK => ?_
    have hr : (Builtin.append_ #[38, 38] o.type #[.slice none 0 0, .slice ad 0 c]).run Tryd.prog W = .ok (.slice none 0 0) W := by
      cases ad with
      | none => simp [Builtin.append_, go_sem]
      | some ad => simp [Builtin.append_, go_sem]
    unfold Oper.wp execOp
    simp only [ho, resolve, invoke, builtin, Sem.run_bind, Sem.run_pure, Result.andThen_ok, List.map_toArray, List.map_cons, List.map_nil, hs, hx, List.length_nil, hr]
    exact hK _ _ (h _ _ _ (.inl rfl) (Nat.le_refl _) (by omega) (Below.refl _ _))
  · obtain ⟨b, of, rfl, hc⟩ := hn.pos h0
    refine wpList_append_lies W hgd s x _ ho W.heap.size 5 j0 _ 1 1 Tryd.underlying38 hj hw0 hw1 hw2 rfl (by decide) (.slice none 0 0) 0 [] hs (World.ownsRow_nil _ _ _ _) ⟨b, of, none⟩ l.length c (l.map byteV) hx (by simp) (news_bytes hc) (by simp [Value.oneCell']) h0 (by unfold maxLen; omega) (by omega) (Nat.le_refl _) _ rfl ?_
    intro g cap w' h1 h2 h3 h4
    rw [Nat.zero_add] at h1 ⊢
    rw [List.nil_append] at h1
    obtain ⟨g2, c2, hv, hg1, _, hg3, hg4, hg5⟩ := own_shape h1 h0
    cases hv
    refine h _ _ w' (.inr ⟨_, 0, rfl, fun i v hv => ?_⟩) hg3 (by unfold maxLen at hg4; omega) ⟨h2.os, h2.tape, h2.output, h2.size, fun k hk => h2.block k hk (by simp [Value.ownBlock])⟩
    rw [Nat.zero_add]; exact hg5 i v hv
theorem decode_b (b : Str) : (decode b).1.items.length ≤ 1000 ∧ (decode b).1.flash.pages.length ≤ 20 := by
  have hz : Store.zero.items.length ≤ 1000 ∧ Store.zero.flash.pages.length ≤ 20 := ⟨by decide, by decide⟩
  unfold decode
  split
  · exact hz
  split
  · exact hz
  split
  · exact hz
  split
  · exact hz
  unfold answer
  split
  · exact hz
  split
  · exact hz
  · exact ⟨(store_b _).2.2.1, (store_b _).2.2.2⟩
end Go.Proofs.YtbipegbgfdpaeaaDoor.D
