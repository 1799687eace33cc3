/-
 Contract: ref.AppendedOf: where a value goes, as the document says.
-/
import Derived.Test.YtbeegfkfpkfccaaGreatDoorYCAppend
import Derived.Test.YtbeegfkfpkfccaaGreatDoorYCPagesAt
import Derived.Test.YtbeegfkfpkfccaaGreatDoorYRd
namespace Go.Proofs.YtbeegfkfpkfccaaGreatDoor.D
open Go.RowKit
def AppEndR (f : Flash) (s : Str) (w : World) (e : Ending) (w' : World) : Prop :=
 ∃ a c, e = .returned (AppV (f.append s) (.slice a (f.append s).1.pages.length c)) ∧ RowsAt w' a 2 (PageR w') (f.append s).1.pages ∧ Below w.heap.size w w'
def AppEndP (f : Flash) (s : Str) (w : World) (e : Ending) (w' : World) : Prop :=
 ∃ a c, e = .returned (AppV (f.append s) (.slice a (f.append s).1.pages.length c)) ∧ RowsAt w' a 2 (PageR w') (f.append s).1.pages ∧ Below w.heap.size w w' ∧ ((f.append s).1.pages = [] ∨ ∃ b o vs, a = some ⟨b, o, none⟩ ∧ PagesAt w.heap.size w' b o (f.append s).1.pages vs)
theorem appEndR_no {f : Flash} {s : Str} {n : Int} {w w' : World} (h : f.append s = (Flash.zero, ⟨0, 0⟩, 0, n)) (hb : Below w.heap.size w w') :
  AppEndP f s w (.returned (.tuple #[.agg #[.int .i64 0, .int .i64 0, .slice none 0 0], .agg #[.int .i64 0, .int .i64 0], .int .i64 0, .int .i64 n])) w' :=
 ⟨none, 0, by rw [h]; rfl, by rw [h]; exact RowsAt.nil _ _ _ _, hb, .inl (by rw [h]; rfl)⟩
theorem of_results (W : World) (tm : Array Value) (G H : Nat) (m n pg po go e : Int) (v : Value) (h4 : tm[4]? = some (.pointer (some ⟨G, 0, none⟩))) (h5 : tm[5]? = some (.pointer (some ⟨H, 0, none⟩))) (h6 : tm[6]? = some (.int .i64 go)) (h7 : tm[7]? = some (.int .i64 e))
  (c0 : W.cell? ⟨G, 0, none⟩ = some (.int .i64 m)) (c1 : W.cell? ⟨G, 1, none⟩ = some (.int .i64 n)) (c2 : W.cell? ⟨G, 2, none⟩ = some v) (d0 : W.cell? ⟨H, 0, none⟩ = some (.int .i64 pg)) (d1 : W.cell? ⟨H, 1, none⟩ = some (.int .i64 po)) :
  (results Tryz.f118 tm).run Tryz.prog W = .ok (.tuple #[.agg #[.int .i64 m, .int .i64 n, v], .agg #[.int .i64 pg, .int .i64 po], .int .i64 go, .int .i64 e]) W := by
 simp [results, Tryz.results118, go_sem, h4, h5, h6, h7, c0, c1, c2, d0, d1]
theorem may_of (f : Flash) (t : Bool) (ht : Hid (f.ok = t)) (a : Option Addr) (c : Nat) (w : World) (h : RowsAt w a 2 (PageR w) f.pages) (hc : f.pages.length ≤ 9223372036854775807) :
  Calls Tryz.prog 59 #[.agg #[.int .i64 f.most, .int .i64 f.next, .slice a f.pages.length c]] w fun e w' => e = .returned (.bool t) ∧ Below w.heap.size w w' := by
 refine (ref_FlashMay f a c w h hc).mono ?_;rintro e w' ⟨rfl, hb⟩;exact ⟨by rw [ht.out], hb⟩
theorem list_page_arg {ops : Array Oper} {rest : List Oper} {o : Oper} {a : Act} {Q : Exit → Act → World → Prop} (W : World) (hgd : o.guard = none) (s x : Operand)
  (ho : o.op = .call { callee := .builtin .append, args := #[s, x], argTypes := #[24, 24] }) (g off k cap B : Nat) (pn : Int) (olds : List Value)
  (hs : a.eval s = .slice (some ⟨g, off, none⟩) k cap) (hlo : olds.length = k * 2) (holds : ∀ j u, olds[j]? = some u → W.cell? ⟨g, off + j, none⟩ = some u) (hx : a.eval x = .slice (some ⟨B, 0, none⟩) 1 1)
  (hb : W.heap[B]? = some (.cells #[.int .i64 pn, .slice none 0 0] 98 (0, 0))) (hspare : k + 1 ≤ cap → ∀ j, j < 2 → (W.cell? ⟨g, off + k * 2 + j, none⟩).isSome = true ∧ W.frozen? ⟨g, off + k * 2 + j, none⟩ = false)
  (hk : (k + 1) * 32 ≤ 140737488355328)
  (hroom : k + 1 ≤ cap → wpList Tryz.prog ops Q rest (a.put o.dst (.slice (some ⟨g, off, none⟩) (k + 1) cap)) (W.setCells g (off + k * 2) [.int .i64 pn, .slice none 0 0]))
  (hgrow : cap < k + 1 → ∀ v' w', w'.ownsRow W.heap.size 98 2 v' (k + 1) (olds ++ [.int .i64 pn, .slice none 0 0]) → W.grownBy w' none → wpList Tryz.prog ops Q rest (a.put o.dst v') w') :
  wpList Tryz.prog ops Q (o :: rest) a W := by
 obtain ⟨j0, hj, hw0, hw1, hw2⟩ := info_parts infoPage;exact wpList_append_arg W hgd s x _ ho 98 j0 _ 2 32 Tryz.underlying24 hj hw0 hw1 hw2 rfl (by decide) g off k cap olds hs hlo holds ⟨B, 0, none⟩ 1 1 [.int .i64 pn, .slice none 0 0] hx rfl (World.news_of_block hb) (ones rfl) hspare (by unfold maxLen; omega) hk hroom hgrow
theorem of_last {base : Nat} {W1 w5 w6 : World} {b o g2 cap2 bc : Nat} {ba : Option Addr} {fr : List Page} {vs' : List Value} {num : Int} {by' : Str} {s : ByteArray} (H : Nat) (hbd : Below W1.heap.size W1 w5)
  (hp : PagesAt base W1 b o (fr ++ [⟨num, by'⟩]) (vs' ++ [.slice ba by'.length bc])) (hl : vs'.length = fr.length)
  (how6 : w6.ownsRow base 5 1 (.slice (some ⟨g2, 0, none⟩) (by'.length + (3 + s.size)) cap2) (by'.length + (3 + s.size)) (by'.map byteV ++ (recordOf (bl s)).map byteV))
  (hgr6 : w5.grownBy w6 (Value.slice ba by'.length bc).ownBlock) (hH : w5.heap.size = H) (hat6 : (Value.slice ba by'.length bc).ownBlock = some g2 ∨ g2 = H) :
  PagesAt base (w6.setCell ⟨b, o + fr.length * 2 + 1, none⟩ (.slice (some ⟨g2, 0, none⟩) (by'.length + (3 + s.size)) cap2)) b o (fr ++ [⟨num, by' ++ recordOf (bl s)⟩]) (vs' ++ [.slice (some ⟨g2, 0, none⟩) (by'.length + (3 + s.size)) cap2]) ∧
   w6.cell? ⟨b, o + fr.length * 2 + 1, none⟩ = some (.slice ba by'.length bc) ∧ w6.frozen? ⟨b, o + fr.length * 2 + 1, none⟩ = false := by
 subst hH;have hp5 := hp.below hbd;have hub : (Value.slice ba by'.length bc).ownBlock ≠ some b := hp.off fr.length _ (by rw [← hl]; simp);have hblk : w6.heap[b]? = w5.heap[b]? := hgr6.block b hp5.lt (fun e => hub e.symm);have hlen : (by' ++ recordOf (bl s)).length = by'.length + (3 + s.size) := by rw [List.length_append, recordOf_length (n := s.size) (bl_length s)]
 rw [Nat.add_assoc];refine ⟨hp5.last hl hgr6 ?_ ?_, ?_, ?_⟩
 ·rw [hlen, List.map_append]; exact how6
 ·intro k hk
  cases hk
  exact hat6.imp id (fun e => Nat.le_of_eq e.symm)
 ·exact (World.cell?_of_block (w := w5) hblk).trans (hp5.cells _ _ (pageCells_val _ _ fr.length _ hp5.len (by rw [← hl]; simp)))
 ·exact (World.frozen?_of_block (w := w5) hblk).trans (hp5.free _ (by simp; omega))
theorem of_made {f : Flash} {n : Nat} {fr : List Page} {go : Int} {w w3 : World} {O : Nat} {sl : Value} {b o : Nat} {cp : Nat} {vs : List Value} (hpr : f.prep n = ⟨fr, f.next, [], f.next + 1, go⟩) (hO : w.heap.size + 3 ≤ O)
  (h0 : Box3 w3 O (.int .i64 f.most) (.int .i64 f.next) sl) (h1 : Box3 w3 (w.heap.size + 1) (.int .i64 0) (.int .i64 0) (.slice none 0 0)) (h2 : Box2 w3 (w.heap.size + 1 + 1) (.int .i64 0) (.int .i64 0))
  (hp : PagesAt (w.heap.size + 3) w3 b o (fr ++ [⟨f.next, []⟩]) (vs ++ [.slice none 0 0])) (hbo : b ≠ O) (hoff : ∀ (j : Nat) (u : Value), vs[j]? = some u → u.ownBlock ≠ some O) (hb : Below w.heap.size w w3) (hl : vs.length = fr.length) :
  ∃ b' o' vc' vs' u, Value.int .i64 go = .int .i64 (f.prep n).gone ∧ Box3 ((w3.setCell ⟨O, 2, none⟩ (.slice (some ⟨b, o, none⟩) (fr.length + 1) cp)).setCell ⟨O, 1, none⟩ (.int .i64 (f.next + 1))) O (.int .i64 f.most) (.int .i64 (f.prep n).next) (.slice (some ⟨b', o', none⟩) ((f.prep n).front.length + 1) vc') ∧
   Box3 ((w3.setCell ⟨O, 2, none⟩ (.slice (some ⟨b, o, none⟩) (fr.length + 1) cp)).setCell ⟨O, 1, none⟩ (.int .i64 (f.next + 1))) (w.heap.size + 1) (.int .i64 0) (.int .i64 0) (.slice none 0 0) ∧
   Box2 ((w3.setCell ⟨O, 2, none⟩ (.slice (some ⟨b, o, none⟩) (fr.length + 1) cp)).setCell ⟨O, 1, none⟩ (.int .i64 (f.next + 1))) (w.heap.size + 1 + 1) (.int .i64 0) (.int .i64 0) ∧
   PagesAt (w.heap.size + 3) ((w3.setCell ⟨O, 2, none⟩ (.slice (some ⟨b, o, none⟩) (fr.length + 1) cp)).setCell ⟨O, 1, none⟩ (.int .i64 (f.next + 1))) b' o' (f.prep n).pages (vs' ++ [u]) ∧ vs'.length = (f.prep n).front.length ∧ b' ≠ O ∧ u.ownBlock ≠ some O ∧
   Below w.heap.size w ((w3.setCell ⟨O, 2, none⟩ (.slice (some ⟨b, o, none⟩) (fr.length + 1) cp)).setCell ⟨O, 1, none⟩ (.int .i64 (f.next + 1))) := by
 rw [hpr];have ho := off_snoc (u := .slice none 0 0) hoff (by simp [Value.ownBlock]);exact ⟨b, o, cp, vs, .slice none 0 0, rfl, h0.setc.setb, (h1.far (by omega)).far (by omega), (h2.far (by omega)).far (by omega), (hp.storeOff hbo ho _).storeOff hbo ho _, hl, hbo, by simp [Value.ownBlock], (hb.setCell (by show w.heap.size ≤ O; omega) _).setCell (by show w.heap.size ≤ O; omega) _⟩
set_option maxHeartbeats 10000000 in
set_option maxRecDepth 100000 in
theorem ref_AppendedOfP (f : Flash) (s : ByteArray) (a : Option Addr) (c : Nat) (w : World) (h : RowsAt w a 2 (PageR w) f.pages) (hc : f.pages.length ≤ 9223372036854775807) (hsz : s.size ≤ 9223372036854775807) :
  Calls Tryz.prog 118 #[.agg #[.int .i64 f.most, .int .i64 f.next, .slice a f.pages.length c], .string s] w (AppEndP f (bl s) w) := by
 have HR := hid h;clear h;obtain ⟨t, ht⟩ : ∃ t, f.ok = t := ⟨_, rfl⟩;have HT := hid ht;clear ht
 go_enter Tryz.func118, Tryz.ntmps118
 go_wp2_with fail
 refine (may_of f t HT a c _ ?_ hc).mono ?_
 ·exact HR.out.keep (Below.keeps (by go_grown)) (PageR.keep (Below.keeps (by go_grown)))
 rintro e w1 ⟨rfl, hb⟩;have hbw : Below w.heap.size w w1 := Below.trans (by go_grown) (hb.mono (by go_size));have B0 : Box3 w1 w.heap.size (.int .i64 f.most) (.int .i64 f.next) (.slice a f.pages.length c) := Box3.below ⟨by go_simp, by go_simp, by go_simp, fun j => by go_simp⟩ hb;have B1 : Box3 w1 (w.heap.size + 1) (.int .i64 0) (.int .i64 0) (.slice none 0 0) := Box3.below ⟨by go_simp, by go_simp, by go_simp, fun j => by go_simp⟩ hb;have B2 : Box2 w1 (w.heap.size + 1 + 1) (.int .i64 0) (.int .i64 0) := Box2.below ⟨by go_simp, by go_simp, fun j => by go_simp⟩ hb;have hz : w.heap.size + 3 ≤ w1.heap.size := by have := hb.size; simp at this; omega
 clear hb
 cases t
 ·
  have HB := hid (append_bad (s := bl s) HT.out);clear B0;obtain ⟨q0, q1, q2, f1⟩ := B1;obtain ⟨q3, q4, f2⟩ := B2
  go_wp2_with fail
  refine bodyPost_ret (v := .tuple #[.agg #[.int .i64 0, .int .i64 0, .slice none 0 0], .agg #[.int .i64 0, .int .i64 0], .int .i64 0, .int .i64 8]) (of_results _ _ (w.heap.size + 1) (w.heap.size + 1 + 1) _ _ _ _ _ _ _ rfl rfl rfl rfl (by go_simp) (by go_simp) (by go_simp) (by go_simp) (by go_simp)) rfl (appEndR_no HB.out ?_)
  repeat' (first | with_reducible exact hbw | refine Below.drew ?_ | refine Below.setCell ?_ ?_ _ | (simp <;> omega))
 ·have HM := hid (ok_mem HT.out)
  obtain ⟨l1, l2, l3, l4, l5, l6⟩ := ok_len HT.out
  by_cases h2 : 200 < s.size
  ·
   have HB := hid (append_long (s := bl s) HT.out (by rw [bl_length]; exact h2));clear B0;obtain ⟨q0, q1, q2, f1⟩ := B1;obtain ⟨q3, q4, f2⟩ := B2
   go_wp2_with fail
   refine bodyPost_ret (v := .tuple #[.agg #[.int .i64 0, .int .i64 0, .slice none 0 0], .agg #[.int .i64 0, .int .i64 0], .int .i64 0, .int .i64 1]) (of_results _ _ (w.heap.size + 1) (w.heap.size + 1 + 1) _ _ _ _ _ _ _ rfl rfl rfl rfl (by go_simp) (by go_simp) (by go_simp) (by go_simp) (by go_simp)) rfl (appEndR_no HB.out ?_)
   repeat' (first | with_reducible exact hbw | refine Below.drew ?_ | refine Below.setCell ?_ ?_ _ | (simp <;> omega))
  ·by_cases h3 : f.most = 0
   ·
    have HB := hid (append_full (s := bl s) HT.out (by rw [bl_length]; exact h2) (.inl h3));rw [h3] at B0;obtain ⟨p0, p1, p2, f0⟩ := B0;have H3 := hid h3;clear h3;obtain ⟨q0, q1, q2, f1⟩ := B1;obtain ⟨q3, q4, f2⟩ := B2
    go_wp2_with fail
    refine bodyPost_ret (v := .tuple #[.agg #[.int .i64 0, .int .i64 0, .slice none 0 0], .agg #[.int .i64 0, .int .i64 0], .int .i64 0, .int .i64 7]) (of_results _ _ (w.heap.size + 1) (w.heap.size + 1 + 1) _ _ _ _ _ _ _ rfl rfl rfl rfl (by go_simp) (by go_simp) (by go_simp) (by go_simp) (by go_simp)) rfl (appEndR_no HB.out ?_)
    repeat' (first | with_reducible exact hbw | refine Below.drew ?_ | refine Below.setCell ?_ ?_ _ | (simp <;> omega))
   ·by_cases h4 : f.next = 1099511627776
    ·
     have HB := hid (append_full (s := bl s) HT.out (by rw [bl_length]; exact h2) (.inr h4));obtain ⟨p0, p1, p2, f0⟩ := B0;have t3 : (f.most == 0) = false := by simp [h3]
     have t4 : (f.next == 1099511627776) = true := by simp [h4]
     have H4 := hid h4;clear h4;obtain ⟨q0, q1, q2, f1⟩ := B1;obtain ⟨q3, q4, f2⟩ := B2
     go_wp2_with fail
     refine bodyPost_ret (v := .tuple #[.agg #[.int .i64 0, .int .i64 0, .slice none 0 0], .agg #[.int .i64 0, .int .i64 0], .int .i64 0, .int .i64 7]) (of_results _ _ (w.heap.size + 1) (w.heap.size + 1 + 1) _ _ _ _ _ _ _ rfl rfl rfl rfl (by go_simp) (by go_simp) (by go_simp) (by go_simp) (by go_simp)) rfl (appEndR_no HB.out ?_)
     repeat' (first | with_reducible exact hbw | refine Below.drew ?_ | refine Below.setCell ?_ ?_ _ | (simp <;> omega))
    ·
     have t3 : (f.most == 0) = false := by simp [h3]
     have t4 : (f.next == 1099511627776) = false := by simp [h4]
     have H3 := hid h3;have H4 := hid h4;clear h3 h4;obtain ⟨p0, p1, p2, f0⟩ := B0
     go_wp2_with fail
     refine (ref_FlashCopy f a c _ ?_ (by omega) ?_).mono ?_
     ·exact HR.out.keep (Below.keeps hbw) (PageR.keep (Below.keeps hbw))
     ·intro p hp; have := HM.out p hp; omega
     rintro e w2 ⟨v, vs, rfl, hpm, hb2⟩;obtain ⟨va, vc, hv⟩ := own_slice hpm.row;rw [hv] at hpm ⊢;clear hv;have hoff : OffRow w2.heap.size (.slice va f.pages.length vc) vs := hpm.offTop;have hbw2 : Below w.heap.size w w2 := hbw.trans (hb2.mono hbw.size);have hz2 : w.heap.size + 3 ≤ w2.heap.size := Nat.le_trans hz hb2.size;have D0 := (Box3.below ⟨p0, p1, p2, f0⟩ hb2).alloc (.cells #[.int .i64 f.most, .int .i64 f.next, .slice va f.pages.length vc] 26);have D1 := (B1.below hb2).alloc (.cells #[.int .i64 f.most, .int .i64 f.next, .slice va f.pages.length vc] 26);have D2 := (B2.below hb2).alloc (.cells #[.int .i64 f.most, .int .i64 f.next, .slice va f.pages.length vc] 26);have E0 : Box3 (w2.alloc (.cells #[.int .i64 f.most, .int .i64 f.next, .slice va f.pages.length vc] 26)) w2.heap.size (.int .i64 f.most) (.int .i64 f.next) (.slice va f.pages.length vc) := ⟨by go_simp, by go_simp, by go_simp, fun j => by go_simp⟩;have hpm4 : PagesOwn (w.heap.size + 3) (w2.alloc (.cells #[.int .i64 f.most, .int .i64 f.next, .slice va f.pages.length vc] 26)) (.slice va f.pages.length vc) f.pages vs := (hpm.base hz).below ((Below.refl _ _).alloc (Nat.le_refl _) _);have hb3 : Below w.heap.size w (w2.alloc (.cells #[.int .i64 f.most, .int .i64 f.next, .slice va f.pages.length vc] 26)) := hbw2.alloc hbw2.size _;have hz3 : w.heap.size + 3 ≤ (w2.alloc (.cells #[.int .i64 f.most, .int .i64 f.next, .slice va f.pages.length vc] 26)).heap.size := by simp; omega
     clear hpm B1 B2 p0 p1 p2 f0 hbw hz hbw2 hb2;obtain ⟨O, hO⟩ : ∃ O, O = w2.heap.size := ⟨_, rfl⟩;rw [← hO] at E0 hoff hz2;go_upto_region 10 with (fail);rw [← hO]
     generalize (w2.alloc (.cells #[.int .i64 f.most, .int .i64 f.next, .slice va f.pages.length vc] 26)) = W at *
     have HO0 := hid hO;clear hO;obtain ⟨l7, l8⟩ := prep_small (f := f) (n := s.size) l1 (by omega);have HPB := hid (prep_pageB (f := f) (n := s.size) HR.out.pageB l4 l5);have hba := append_good (s := bl s) HT.out (by rw [bl_length]; exact h2) (fun h => h.elim H3.out H4.out);rw [bl_length] at hba;have HB := hid hba;clear hba;have hs : s.size ≤ 200 := by omega
     have HP4 := hid hpm4;have HOFF := hid hoff;clear hpm4 HR t3 t4 hoff
     go_cut [53] (fun t wx => t = .bool (!(f.fits s.size)) ∧ W = wx)
     case first =>
      have hc2 := E0.c
      cases hf : f.fits s.size
      ·rcases fits_no hf with h0 | ⟨front, num, by', h0, hlen⟩
       ·
        have hn : f.pages.length = 0 := by rw [h0]; rfl
        have hn0 : ((f.pages.length : Int) == 0) = true := by simp [hn]
        have HN := hid hn;have HF := hid hf;clear hn h0 hf
        go_wp2_with fail
        go_meet;exact ⟨by rw [HF.out]; rfl, rfl⟩
       ·
        have hn : f.pages.length = front.length + 1 := by rw [h0]; simp
        have hn0 : ((f.pages.length : Int) == 0) = false := by rw [beq_eq_false_iff_ne]; omega
        have hp5 := HP4.out;rw [h0] at hp5;obtain ⟨g, ba, bc, vs', rfl, hg, hg2, hnc, rfl, hvl, hcn, hcb, _, hcm⟩ := hp5.lastOf;have hcb' : W.cell? ⟨g, (f.pages.length - 1) * 2 + 1, none⟩ = some (.slice ba by'.length bc) := by rw [hn]; exact hcb
        have hbl : by'.length ≤ 256 := (HM.out ⟨num, by'⟩ (by rw [h0]; simp)).2.2
        have HN := hid hn;have HF := hid hf;have hvm := le_maxLen hcm;have hn1 : 1 ≤ f.pages.length := by omega
        clear hn h0 hf hp5 hcb hcn hcm
        go_wp2_with fail
        go_meet;exact ⟨by rw [HF.out]; simp; omega, rfl⟩
      ·
       obtain ⟨front, num, by', h0, hlen, _⟩ := fits_split hf;have hn : f.pages.length = front.length + 1 := by rw [h0]; simp
       have hn0 : ((f.pages.length : Int) == 0) = false := by rw [beq_eq_false_iff_ne]; omega
       have hp5 := HP4.out;rw [h0] at hp5;obtain ⟨g, ba, bc, vs', rfl, hg, hg2, hnc, rfl, hvl, hcn, hcb, _, hcm⟩ := hp5.lastOf;have hcb' : W.cell? ⟨g, (f.pages.length - 1) * 2 + 1, none⟩ = some (.slice ba by'.length bc) := by rw [hn]; exact hcb
       have HN := hid hn;have HF := hid hf;have hvm := le_maxLen hcm;have hn1 : 1 ≤ f.pages.length := by omega
       clear hn h0 hf hp5 hcb hcn hcm
       go_wp2_with fail
       go_meet;exact ⟨by rw [HF.out]; simp; omega, rfl⟩
     case rest =>
      obtain ⟨rfl, rfl⟩ := hcut
      go_upto_if 53 with (fail)
      go_cut [10] (fun gone wx => ∃ b o vc vs u, gone = .int .i64 (f.prep s.size).gone ∧ Box3 wx O (.int .i64 f.most) (.int .i64 (f.prep s.size).next) (.slice (some ⟨b, o, none⟩) ((f.prep s.size).front.length + 1) vc) ∧
       Box3 wx (w.heap.size + 1) (.int .i64 0) (.int .i64 0) (.slice none 0 0) ∧ Box2 wx (w.heap.size + 1 + 1) (.int .i64 0) (.int .i64 0) ∧
       PagesAt (w.heap.size + 3) wx b o (f.prep s.size).pages (vs ++ [u]) ∧ vs.length = (f.prep s.size).front.length ∧ b ≠ O ∧ u.ownBlock ≠ some O ∧ Below w.heap.size w wx)
      case first =>
       cases hf : f.fits s.size
       ·
        have HF := hid hf;clear hf;have p0 := E0.a;have p1 := E0.b;have p2 := E0.c;have pf := E0.free;have e0 := D0.a;have e1 := D0.b
        by_cases hm : (f.pages.length : Int) = f.most
        ·
         have hpr := prep_shift HF.out hm;have t5 : ((f.pages.length : Int) == f.most) = true := by simp [hm]
         have H5 := hid hm;have hpos : 0 < f.pages.length := by have := H3.out; omega
         obtain ⟨ph, pt, hpe⟩ : ∃ ph pt, f.pages = ph :: pt := by
          cases h : f.pages with
          | nil => rw [h] at hpos; cases hpos
          | cons a b => exact ⟨a, b, rfl⟩
         obtain ⟨vh, vt, hve⟩ : ∃ vh vt, vs = vh :: vt := by
          have h1 := HP4.out.len
          cases h : vs with
          | nil => rw [h, hpe] at h1; cases h1
          | cons a b => exact ⟨a, b, rfl⟩
         have hnt : f.pages.length = pt.length + 1 := by rw [hpe]; rfl
         obtain ⟨g, hva, hg1, hg2⟩ := own_some HP4.out.row hpos;subst hva
         have hc0 : W.cell? ⟨g, 0, none⟩ = some (.int .i64 ph.number) := by
          have h := HP4.out.row.cells (g := g) rfl 0 (.int .i64 ph.number) (by rw [hpe, hve]; rfl)
          rwa [addr_add] at h
         have hcap : f.pages.length ≤ vc ∧ vc ≤ 9223372036854775807 := by
          obtain ⟨_, _, hv, _, _, h1, h2, _⟩ := own_shape HP4.out.row hpos
          cases hv; exact ⟨h1, le_maxLen h2⟩
         obtain ⟨hcap1, hcap2⟩ := hcap;have hgO : g ≠ O := fun e => HOFF.out.1 (by rw [e]; rfl)
         have hoffs : ∀ (j : Nat) (u : Value), vt[j]? = some u → u.ownBlock ≠ some O := fun j u hu => HOFF.out.2 (j + 1) u (by rw [hve]; simpa using hu)
         have hpr2 : f.prep s.size = ⟨pt, f.next, [], f.next + 1, ph.number⟩ := by rw [hpr, hpe]; rfl
         have hps : PagesOwn (w.heap.size + 3) W (.slice (some ⟨g, 0, none⟩) (pt.length + 1) vc) (ph :: pt) (vh :: vt) := by rw [← hpe, ← hve, ← hnt]; exact HP4.out
         have hlv : vt.length = pt.length := by have := hps.len; simpa using this
         have hpt : pt.length ≤ 20 := by omega
         have HOF2 : Hid (OffRow O (.slice (some ⟨g, 0, none⟩) (pt.length + 1) vc) (vh :: vt)) := by show OffRow _ _ _; rw [← hve, ← hnt]; exact HOFF.out
         have HNT := hid hnt;have HPR := hid hpr2;have HPS := hid hps;have HOFS := hid hoffs;clear hm hpr hpe hve hpr2 hps hoffs;go_upto_region 13 with (fail);have HM1 : Hid (f.pages.length - 1 = pt.length) := by show f.pages.length - 1 = pt.length; omega
         clear hnt t5
         by_cases hv1 : vc = 1
         ·
          subst hv1;have hpt0 : pt = [] := List.eq_nil_of_length_eq_zero (by have := HNT.out; omega);have hvt0 : vt = [] := List.eq_nil_of_length_eq_zero (by rw [hlv, hpt0]; rfl);subst hpt0 hvt0;have hnn : f.pages.length = 1 := HNT.out;have hoff1 := HOF2.out;have K0 := E0.setc (v := (.slice (some ⟨g, 0, none⟩) 0 0));have K1 := D1.far (b := O) (o := 2) (v := (.slice (some ⟨g, 0, none⟩) 0 0)) (by omega);have K2 := D2.far (b := O) (o := 2) (v := (.slice (some ⟨g, 0, none⟩) 0 0)) (by omega);have K3 := D0.far (b := O) (o := 2) (v := (.slice (some ⟨g, 0, none⟩) 0 0)) (by omega);have hb4 : Below w.heap.size w (W.setCell ⟨O, 2, none⟩ (.slice (some ⟨g, 0, none⟩) 0 0)) := hb3.setCell (by show w.heap.size ≤ O; omega) _;have hz4 : w.heap.size + 3 ≤ (W.setCell ⟨O, 2, none⟩ (.slice (some ⟨g, 0, none⟩) 0 0)).heap.size := by simp; omega
          have hps4 := HPS.out.storeOff (i := 2) HOF2.out (.slice (some ⟨g, 0, none⟩) 0 0);have hOlt : O < (W.setCell ⟨O, 2, none⟩ (.slice (some ⟨g, 0, none⟩) 0 0)).heap.size := by simp; exact E0.lt
          have HNN := hid hnn;clear hnn hoff1 hlv;go_upto_region 14 with (fail);clear p0 p1 p2 pf e0 e1 hc0
          generalize W.setCell ⟨O, 2, none⟩ (.slice (some ⟨g, 0, none⟩) 0 0) = W4 at *
          have HK0 := hid K0;have HK3 := hid K3;obtain ⟨p0, p1, p2, pf⟩ := K0;obtain ⟨e0, e1, e2, ef⟩ := K3;have Hblk : Hid ((W4.alloc (.cells #[.int .i64 f.next, .slice none 0 0] 98)).heap[W4.heap.size]? = some (.cells #[.int .i64 f.next, .slice none 0 0] 98 (0, 0))) := blk_new W4 _;have hps5 := hps4.below (w' := W4.alloc (.cells #[.int .i64 f.next, .slice none 0 0] 98)) ((Below.refl _ _).alloc (Nat.le_refl _) _);have HP5 := hid hps5;have L0 := HK0.out.alloc (.cells #[.int .i64 f.next, .slice none 0 0] 98);have L1 := K1.alloc (.cells #[.int .i64 f.next, .slice none 0 0] 98);have L2 := K2.alloc (.cells #[.int .i64 f.next, .slice none 0 0] 98);have L3 := HK3.out.alloc (.cells #[.int .i64 f.next, .slice none 0 0] 98);have hb5 : Below w.heap.size w (W4.alloc (.cells #[.int .i64 f.next, .slice none 0 0] 98)) := hb4.alloc hb4.size _;have hz5 : w.heap.size + 3 ≤ (W4.alloc (.cells #[.int .i64 f.next, .slice none 0 0] 98)).heap.size := by simp; omega
          have hO5 : O < (W4.alloc (.cells #[.int .i64 f.next, .slice none 0 0] 98)).heap.size := by simp; omega
          clear hps4 hps5 K1 K2 hb4
          go_wp2_with (at_builtin; go_must (refine list_page_arg _ rfl (.tmp 68) (.tmp 72) rfl g 0 0 0 W4.heap.size f.next [] rfl rfl (fun j u h => by simp at h) rfl Hblk.out (fun h => by omega) (by decide) (fun h => by omega) ?_))
          intro v' w3 how3 hgr3;obtain ⟨gp, cp, rfl, hgp1, hgp2, _⟩ := own_shape how3 (by omega);have hps := HP5.out.regrow (x := f.next) hgr3 (by rw [World.size_alloc]; exact how3) hz5;have M0 := L0.grown hgr3 (by simp);have M1 := L1.grown hgr3 (by simp);have M2 := L2.grown hgr3 (by simp);have M3 := L3.grown hgr3 (by simp);have hbn : Below w.heap.size w w3 := hb5.grown hgr3 (by omega) (fun b h => by cases h);have HFIN := hid (of_made (cp := cp) HPR.out hz2 M0 M1 M2 (hps.at (by simp)) (by omega) HOFS.out hbn rfl);obtain ⟨j0, j1, j2, jf⟩ := M0;obtain ⟨i0, i1, i2, jf2⟩ := M3;clear p0 p1 p2 pf e0 e1 e2 ef L0 L1 L2 L3 M1 M2 hps hbn hgr3 how3 hgp1 hgp2 hb5
          go_wp2_with fail
          go_meet;exact HFIN.out
         ·
          have K0 := E0.setc (v := (.slice (some ⟨g, 2, none⟩) pt.length (vc - 1)));have K1 := D1.far (b := O) (o := 2) (v := (.slice (some ⟨g, 2, none⟩) pt.length (vc - 1))) (by omega);have K2 := D2.far (b := O) (o := 2) (v := (.slice (some ⟨g, 2, none⟩) pt.length (vc - 1))) (by omega);have K3 := D0.far (b := O) (o := 2) (v := (.slice (some ⟨g, 2, none⟩) pt.length (vc - 1))) (by omega);have hb4 : Below w.heap.size w (W.setCell ⟨O, 2, none⟩ (.slice (some ⟨g, 2, none⟩) pt.length (vc - 1))) := hb3.setCell (by show w.heap.size ≤ O; omega) _;have hz4 : w.heap.size + 3 ≤ (W.setCell ⟨O, 2, none⟩ (.slice (some ⟨g, 2, none⟩) pt.length (vc - 1))).heap.size := by simp; omega
          have hps4 := HPS.out.storeOff (i := 2) HOF2.out (.slice (some ⟨g, 2, none⟩) pt.length (vc - 1));have hOlt : O < (W.setCell ⟨O, 2, none⟩ (.slice (some ⟨g, 2, none⟩) pt.length (vc - 1))).heap.size := by simp; exact E0.lt
          go_upto_region 14 with (fail);rw [HM1.out];clear p0 p1 p2 pf e0 e1 hc0
          generalize W.setCell ⟨O, 2, none⟩ (.slice (some ⟨g, 2, none⟩) pt.length (vc - 1)) = W4 at *
          have HK0 := hid K0;have HK3 := hid K3;obtain ⟨p0, p1, p2, pf⟩ := K0;obtain ⟨e0, e1, e2, ef⟩ := K3;have hk1 : (pt.length + 1) * 32 ≤ 140737488355328 := by omega
          have Hblk : Hid ((W4.alloc (.cells #[.int .i64 f.next, .slice none 0 0] 98)).heap[W4.heap.size]? = some (.cells #[.int .i64 f.next, .slice none 0 0] 98 (0, 0))) := blk_new W4 _;have hps5 := hps4.below (w' := W4.alloc (.cells #[.int .i64 f.next, .slice none 0 0] 98)) ((Below.refl _ _).alloc (Nat.le_refl _) _);have HP5 := hid hps5;have L0 := HK0.out.alloc (.cells #[.int .i64 f.next, .slice none 0 0] 98);have L1 := K1.alloc (.cells #[.int .i64 f.next, .slice none 0 0] 98);have L2 := K2.alloc (.cells #[.int .i64 f.next, .slice none 0 0] 98);have L3 := HK3.out.alloc (.cells #[.int .i64 f.next, .slice none 0 0] 98);have hb5 : Below w.heap.size w (W4.alloc (.cells #[.int .i64 f.next, .slice none 0 0] 98)) := hb4.alloc hb4.size _;have hz5 : w.heap.size + 3 ≤ (W4.alloc (.cells #[.int .i64 f.next, .slice none 0 0] 98)).heap.size := by simp; omega
          have hO5 : O < (W4.alloc (.cells #[.int .i64 f.next, .slice none 0 0] 98)).heap.size := by simp; omega
          have HOLDS : Hid (∀ j u, (pageCells pt vt)[j]? = some u → (W4.alloc (.cells #[.int .i64 f.next, .slice none 0 0] 98)).cell? ⟨g, 2 + j, none⟩ = some u) := fun j u hu => by have h := HP5.out.row.cells (g := g) rfl (2 + j) u (by show (.int .i64 ph.number :: vh :: pageCells pt vt : List Value)[2 + j]? = some u; rw [Nat.add_comm]; exact hu); rwa [addr_add, Nat.zero_add] at h
          have HSP : Hid (pt.length + 1 ≤ (vc - 1) → ∀ j, j < 2 → ((W4.alloc (.cells #[.int .i64 f.next, .slice none 0 0] 98)).cell? ⟨g, 2 + pt.length * 2 + j, none⟩).isSome = true ∧ (W4.alloc (.cells #[.int .i64 f.next, .slice none 0 0] 98)).frozen? ⟨g, 2 + pt.length * 2 + j, none⟩ = false) := fun h j hj => own_spare HP5.out.row _ (by omega)
          have HLO : Hid ((pageCells pt vt).length = pt.length * 2) := pageCells_length pt vt hlv;clear hps4 hps5 K1 K2 hb4
          go_wp2_with (at_builtin; go_must (refine list_page_arg _ rfl (.tmp 68) (.tmp 72) rfl g 2 pt.length (vc - 1) W4.heap.size f.next (pageCells pt vt) rfl HLO.out HOLDS.out rfl Hblk.out HSP.out hk1 ?_ ?_))
          ·
           intro hcp;have hgr3 := setCells_kept g (W4.alloc (.cells #[.int .i64 f.next, .slice none 0 0] 98)) (2 + pt.length * 2) [.int .i64 f.next, .slice none 0 0];have hps := HP5.out.room (x := f.next) (by omega)
           generalize (W4.alloc (.cells #[.int .i64 f.next, .slice none 0 0] 98)).setCells g (2 + pt.length * 2) [.int .i64 f.next, .slice none 0 0] = w3 at *
           have hne : ∀ F, F < w.heap.size + 3 → some g ≠ some F := fun F hF h => by cases h; omega
           have M0 := L0.grown hgr3 (fun h => hgO (by cases h; rfl));have M1 := L1.grown hgr3 (hne _ (by omega));have M2 := L2.grown hgr3 (hne _ (by omega));have M3 := L3.grown hgr3 (hne _ (by omega));have hbn : Below w.heap.size w w3 := hb5.grown hgr3 (by omega) (fun b h => by cases h; omega);have HFIN := hid (of_made (cp := vc - 1) HPR.out hz2 M0 M1 M2 hps hgO HOFS.out hbn hlv);obtain ⟨j0, j1, j2, jf⟩ := M0;obtain ⟨i0, i1, i2, jf2⟩ := M3;clear p0 p1 p2 pf e0 e1 e2 ef L0 L1 L2 L3 M1 M2 hps hbn hgr3 hb5
           go_wp2_with fail
           go_meet;exact HFIN.out
          ·
           intro hcp v' w3 how3 hgr3;obtain ⟨gp, cp, rfl, hgp1, hgp2, _⟩ := own_shape how3 (by omega);have hps := HP5.out.regrow (x := f.next) hgr3 (by rw [World.size_alloc]; exact how3) hz5;have M0 := L0.grown hgr3 (by simp);have M1 := L1.grown hgr3 (by simp);have M2 := L2.grown hgr3 (by simp);have M3 := L3.grown hgr3 (by simp);have hbn : Below w.heap.size w w3 := hb5.grown hgr3 (by omega) (fun b h => by cases h);have HFIN := hid (of_made (cp := cp) HPR.out hz2 M0 M1 M2 (hps.at (by simp)) (by omega) HOFS.out hbn hlv);obtain ⟨j0, j1, j2, jf⟩ := M0;obtain ⟨i0, i1, i2, jf2⟩ := M3;clear p0 p1 p2 pf e0 e1 e2 ef L0 L1 L2 L3 M1 M2 hps hbn hgr3 how3 hgp1 hgp2 hb5
           go_wp2_with fail
           go_meet;exact HFIN.out
        ·
         have hpr := prep_new HF.out hm;have t5 : ((f.pages.length : Int) == f.most) = false := by simp [hm]
         have H5 := hid hm;have HPR := hid hpr;have hgO := HOFF.out.1;clear hm hpr;have hk1 : (f.pages.length + 1) * 32 ≤ 140737488355328 := by omega
         have Hblk : Hid ((W.alloc (.cells #[.int .i64 f.next, .slice none 0 0] 98)).heap[W.heap.size]? = some (.cells #[.int .i64 f.next, .slice none 0 0] 98 (0, 0))) := blk_new W _;have HOW := hid (HP4.out.row.alloc (.cells #[.int .i64 f.next, .slice none 0 0] 98));have hOlt := E0.lt
         go_wp2_with (at_builtin; go_must (refine list_page _ rfl (.tmp 68) (.tmp 72) rfl (w.heap.size + 3) f.pages.length W.heap.size (.slice va f.pages.length vc) (.slice none 0 0) f.next _ rfl rfl HOW.out Hblk.out rfl hk1 (by simp; omega) ?_))
         intro gp cp w3 how3 hgr3 hat3 hlt3
         have hgp : gp ≠ O := fun e => by
          rcases hat3 with h | h
          ·exact hgO (by rw [h, e])
          ·omega
         have hne : ∀ F, F < w.heap.size + 3 → (Value.slice va f.pages.length vc).ownBlock ≠ some F := fun F hF h => by have := (HOW.out.lt F h).1; omega
         have J0 := (E0.alloc (.cells #[.int .i64 f.next, .slice none 0 0] 98)).grown hgr3 hgO;have J1 := (D1.alloc (.cells #[.int .i64 f.next, .slice none 0 0] 98)).grown hgr3 (hne _ (by omega));have J2 := (D2.alloc (.cells #[.int .i64 f.next, .slice none 0 0] 98)).grown hgr3 (hne _ (by omega));have J3 := (D0.alloc (.cells #[.int .i64 f.next, .slice none 0 0] 98)).grown hgr3 (hne _ (by omega));have hbn : Below w.heap.size w w3 := (hb3.alloc hb3.size _).grown hgr3 (by simp; omega) (fun b h => by have := (HOW.out.lt b h).1; omega);have hps := HP4.out.snoc (w' := w3) (p := ⟨f.next, []⟩) (u := .slice none 0 0) (fun x m xs hx => (hx.alloc _).kept hgr3 (own_types (hx.alloc _) HOW.out (by decide))) (World.ownsRow_nil _ _ _ _) (fun b h => by cases h) how3;have HFIN := hid (of_made (cp := cp) HPR.out hz2 J0 J1 J2 (hps.at (by simp)) hgp HOFF.out.2 hbn HP4.out.len);obtain ⟨j0, j1, j2, jf⟩ := J0;obtain ⟨i0, i1, i2, jf2⟩ := J3;clear p0 p1 p2 pf e0 e1 J1 J2 hps hbn hgr3 hat3 how3 hgp hne hgO
         go_wp2_with fail
         go_meet;exact HFIN.out
       ·
        obtain ⟨front, num, by', h0, hlen, hpr⟩ := fits_split hf;have hn : f.pages.length = front.length + 1 := by rw [h0]; simp
        have hp5 : PagesOwn (w.heap.size + 3) W (.slice va (front.length + 1) vc) (front ++ [⟨num, by'⟩]) vs := by rw [← hn, ← h0]; exact HP4.out
        have hgO := HOFF.out.1;rw [hn] at E0 hgO
        have HFIN : Hid (∃ b o vc vs u, Value.int .i64 0 = .int .i64 (f.prep s.size).gone ∧ Box3 W O (.int .i64 f.most) (.int .i64 (f.prep s.size).next) (.slice (some ⟨b, o, none⟩) ((f.prep s.size).front.length + 1) vc) ∧
          Box3 W (w.heap.size + 1) (.int .i64 0) (.int .i64 0) (.slice none 0 0) ∧ Box2 W (w.heap.size + 1 + 1) (.int .i64 0) (.int .i64 0) ∧
          PagesAt (w.heap.size + 3) W b o (f.prep s.size).pages (vs ++ [u]) ∧ vs.length = (f.prep s.size).front.length ∧ b ≠ O ∧ u.ownBlock ≠ some O ∧ Below w.heap.size w W) := by
         show ∃ b o vc vs u, _;rw [hpr];have hp6 := hp5;obtain ⟨g, ba, bc, vs', rfl, hg, hg2, hnc, hvs, hvl, _⟩ := hp6.lastOf;rw [hvs] at hp5;exact ⟨g, 0, vc, vs', _, rfl, E0, D1, D2, hp5.at (by simp), hvl, fun e => hgO (by rw [e]; rfl), HOFF.out.2 vs'.length _ (by rw [hvs]; simp), hb3⟩
        clear hn h0 hpr hp5 hf hgO
        go_wp2_with fail
        go_meet;exact HFIN.out
      case rest =>
       obtain ⟨b, o, vc, vs', u, rfl, G0, G1, G2, hp, hvl, hbO, huO, hb4⟩ := hcut;obtain ⟨p, hpr⟩ : ∃ p, p = f.prep s.size := ⟨_, rfl⟩;rw [← hpr] at G0 hp hvl l7 l8 HB HPB ⊢;clear hpr E0 D0 D1 D2 hb3 HP4 HOFF HO0 hz3 HM HT;obtain ⟨fr, num, by', nx, gone⟩ := p;simp only [Prep.pages] at G0 hp hvl l7 l8 HB HPB ⊢;obtain ⟨ba, bc, vs1, hvs, hvl1, hcn, hcb, hby⟩ := hp.lastOf;obtain ⟨rfl, hu⟩ := List.append_inj' hvs rfl;simp only [List.cons.injEq, and_true] at hu;subst hu;have hblt := hp.lt;have hbig := hp.big;have HP := hid hp
       have HBY := hid hby
       rw [← Nat.add_assoc] at hcb;have c2 := G0.c;clear hp hby hvs
       go_wp2_with fail
       have HCN := hid hcn;have HCB := hid hcb;have HC2 := hid c2;have HG0 := hid G0;have hOlt := G0.lt;have hidx : (fr.length : Int) < (fr.length : Int) + 1 := by omega
       clear hcn hcb c2 G0;refine wp_region_L (SameTo wc.heap.size wc) 15 16 (by kernel_rfl) (by kernel_rfl) (SameTo.refl _ _) (fun hHeld => ?_);refine tk 0 ?_ rfl (fun _ _ _ h=>h) (y:=?_) (h:=?_);rotate_left
       ·intro wS hSw; go_simp<;>with_reducible rfl
       walk_nrm;refine tk 1 ?_ rfl (fun _ _ _ h=>h) (y:=?_) (h:=?_);rotate_left
       ·intro wS hSw; have q := hSw.cell hOlt HC2.out; go_simp<;>with_reducible rfl
       walk_nrm;refine tk 2 ?_ rfl (fun _ _ _ h=>h) (y:=?_) (h:=?_);rotate_left
       ·intro wS hSw; go_simp<;>with_reducible rfl
       walk_nrm;refine tk 3 ?_ rfl (fun _ _ _ h=>h) (y:=?_) (h:=?_);rotate_left
       ·intro wS hSw; go_simp<;>with_reducible rfl
       walk_nrm;refine tk 4 ?_ rfl (fun _ _ _ h=>h) (y:=?_) (h:=?_);rotate_left
       ·intro wS hSw; go_simp<;>with_reducible rfl
       walk_nrm;refine tk 5 ?_ rfl (fun _ _ _ h=>h) (y:=?_) (h:=?_);rotate_left
       ·intro wS hSw; have q := hSw.cell hblt HCN.out; go_simp<;>with_reducible rfl
       walk_nrm;refine tk 6 ?_ rfl (fun _ _ _ h=>h) (y:=?_) (h:=?_);rotate_left
       ·intro wS hSw; go_simp<;>with_reducible rfl
       walk_nrm;refine tk 7 ?_ rfl (fun _ _ _ h=>h) (y:=?_) (h:=?_);rotate_left
       ·intro wS hSw; have q := hSw.cell hOlt HC2.out; go_simp<;>with_reducible rfl
       walk_nrm;refine tk 8 ?_ rfl (fun _ _ _ h=>h) (y:=?_) (h:=?_);rotate_left
       ·intro wS hSw; go_simp<;>with_reducible rfl
       walk_nrm;refine tk 9 ?_ rfl (fun _ _ _ h=>h) (y:=?_) (h:=?_);rotate_left
       ·intro wS hSw; go_simp<;>with_reducible rfl
       walk_nrm;refine tk 10 ?_ rfl (fun _ _ _ h=>h) (y:=?_) (h:=?_);rotate_left
       ·intro wS hSw; go_simp<;>with_reducible rfl
       walk_nrm;refine tk 11 ?_ rfl (fun _ _ _ h=>h) (y:=?_) (h:=?_);rotate_left
       ·intro wS hSw; have q := hSw.cell hblt HCB.out; go_simp<;>with_reducible rfl
       walk_nrm;refine tk 12 ?_ rfl (fun _ _ _ h=>h) (y:=?_) (h:=?_);rotate_left
       ·intro wS hSw; go_simp<;>with_reducible rfl
       walk_nrm;refine tk 13 ?_ rfl (fun _ _ _ h=>h) (y:=?_) (h:=?_);rotate_left
       ·intro wS hSw; go_simp<;>with_reducible rfl
       walk_nrm;refine wpAnyL_step (i := 14) rfl (by kernel_rfl) (fun K hK => ?_);go_simp;refine hK.out _ _ (hHeld.alloc (Nat.le_refl _) _) (fun hHeld2 => ?_);clear hK K;walk_nrm;refine wpAnyL_last rfl (by kernel_rfl) (fun K hK => ?_);go_simp;refine hK.out _ _ ?_;clear hK K;walk_nrm;refine wpAnyL_done (by kernel_rfl) ?_ _;have K1 : Below wc.heap.size wc (wc.alloc (.cells #[.int .i64 num, .int .i64 (by'.length : Nat)] 81)).drew := ((Below.refl _ _).alloc (Nat.le_refl _) _).drew;have F0 := HG0.out.below K1;have F1 := G1.below K1;have F2 := G2.below K1;have hP1 := HP.out.below K1;have hB1 := owns_below HBY.out K1;have HBYL : Hid (∀ F, (Value.slice ba by'.length bc).ownBlock = some F → F < wc.heap.size) := fun F h => (HBY.out.lt F h).2
       have hb5 : Below w.heap.size w (wc.alloc (.cells #[.int .i64 num, .int .i64 (by'.length : Nat)] 81)).drew := hb4.trans (K1.mono hb4.size);have A0 : Box2 (wc.alloc (.cells #[.int .i64 num, .int .i64 (by'.length : Nat)] 81)).drew wc.heap.size (.int .i64 num) (.int .i64 (by'.length : Nat)) := ⟨by go_simp, by go_simp, fun j => by go_simp⟩;have hcb1 := (K1.cell (p := ⟨b, o + fr.length * 2 + 1, none⟩) hblt).trans HCB.out;have hz5 : wc.heap.size < (wc.alloc (.cells #[.int .i64 num, .int .i64 (by'.length : Nat)] 81)).drew.heap.size := by simp
       have hz4 : w.heap.size + 3 ≤ wc.heap.size := by omega
       clear HG0 G1 G2 HP HBY hb4 HCB HCN HC2 hHeld hHeld2
       generalize (wc.alloc (.cells #[.int .i64 num, .int .i64 (by'.length : Nat)] 81)).drew = W1 at *
       have HP1 := hid hP1;have HO1 := hid hB1;have HF0 := hid F0;have hOlt1 : O < W1.heap.size := by omega
       have hblt1 : b < W1.heap.size := by omega
       have hszb : w.heap.size + 3 ≤ W1.heap.size := by omega
       have S0 : W1.drew.cell? ⟨O, 2, none⟩ = some (.slice (some ⟨b, o, none⟩) (fr.length + 1) vc) ∧ W1.drew.cell? ⟨b, o + fr.length * 2 + 1, none⟩ = some (.slice ba by'.length bc) := ⟨F0.c, hcb1⟩;clear hP1 hB1 F0 hcb1 hidx
       go_wp2_with fail
       have hidx : (fr.length : Int) < (fr.length : Int) + 1 := by omega
       refine wp_region_L (fun w' : World => w'.cell? ⟨O, 2, none⟩ = some (.slice (some ⟨b, o, none⟩) (fr.length + 1) vc) ∧ w'.cell? ⟨b, o + fr.length * 2 + 1, none⟩ = some (.slice ba by'.length bc)) 14 15 (by kernel_rfl) (by kernel_rfl) S0 (fun hHeld => ?_);refine tk 0 ?_ rfl (fun _ _ _ h=>h) (y:=?_) (h:=?_);rotate_left
       ·intro wS hSw; go_simp<;>with_reducible rfl
       walk_nrm;refine tk 1 ?_ rfl (fun _ _ _ h=>h) (y:=?_) (h:=?_);rotate_left
       ·intro wS hSw; obtain ⟨q1, _⟩ := hSw; go_simp<;>with_reducible rfl
       walk_nrm;refine tk 2 ?_ rfl (fun _ _ _ h=>h) (y:=?_) (h:=?_);rotate_left
       ·intro wS hSw; go_simp<;>with_reducible rfl
       walk_nrm;refine tk 3 ?_ rfl (fun _ _ _ h=>h) (y:=?_) (h:=?_);rotate_left
       ·intro wS hSw; go_simp<;>with_reducible rfl
       walk_nrm;refine tk 4 ?_ rfl (fun _ _ _ h=>h) (y:=?_) (h:=?_);rotate_left
       ·intro wS hSw; obtain ⟨q1, _⟩ := hSw; go_simp<;>with_reducible rfl
       walk_nrm;refine tk 5 ?_ rfl (fun _ _ _ h=>h) (y:=?_) (h:=?_);rotate_left
       ·intro wS hSw; go_simp<;>with_reducible rfl
       walk_nrm;refine tk 6 ?_ rfl (fun _ _ _ h=>h) (y:=?_) (h:=?_);rotate_left
       ·intro wS hSw; go_simp<;>with_reducible rfl
       walk_nrm;refine tk 7 ?_ rfl (fun _ _ _ h=>h) (y:=?_) (h:=?_);rotate_left
       ·intro wS hSw; go_simp<;>with_reducible rfl
       walk_nrm;refine tk 8 ?_ rfl (fun _ _ _ h=>h) (y:=?_) (h:=?_);rotate_left
       ·intro wS hSw; obtain ⟨_, q1⟩ := hSw; go_simp<;>with_reducible rfl
       walk_nrm;refine tk 9 ?_ rfl (fun _ _ _ h=>h) (y:=?_) (h:=?_);rotate_left
       ·intro wS hSw; go_simp<;>with_reducible rfl
       walk_nrm;refine wpAnyL_step (i := 10) rfl (by kernel_rfl) (fun K hK => ?_);go_simp;refine (ref_bytesOf s _ hs).mono ?_;rintro e w5 ⟨v, rfl, hown5, hb5'⟩;obtain ⟨x, xc, rfl, hx1, hx2, _⟩ := own_shape hown5 (by omega);have hbd : Below W1.heap.size W1 w5 := ⟨hb5'.os, hb5'.tape, hb5'.output, hb5'.size, hb5'.block⟩;have hz8 : W1.heap.size ≤ w5.heap.size := hbd.size
       have S5 : w5.cell? ⟨O, 2, none⟩ = some (.slice (some ⟨b, o, none⟩) (fr.length + 1) vc) ∧ w5.cell? ⟨b, o + fr.length * 2 + 1, none⟩ = some (.slice ba by'.length bc) :=
        ⟨(hb5'.cell (p := ⟨O, 2, none⟩) hOlt1).trans S0.1, (hb5'.cell (p := ⟨b, o + fr.length * 2 + 1, none⟩) hblt1).trans S0.2⟩
       have HO5 := hid (owns_below HO1.out hbd);have HNEWS : Hid (∀ j u, ((recordOf (bl s)).map byteV)[j]? = some u → w5.cell? ((⟨x, 0, none⟩ : Addr).add j) = some u) := hown5.cells (g := x) rfl;have HRL : Hid (((recordOf (bl s)).map byteV).length = (3 + s.size) * 1) := hown5.1;have HONE : Hid (∀ u ∈ (recordOf (bl s)).map byteV, u.oneCell' = true) := by intro u hu; simp at hu; obtain ⟨_, _, rfl⟩ := hu; rfl
       have hsz5 : w.heap.size + 3 ≤ w5.heap.size := by omega
       obtain ⟨i0, hi, hz0, hz1, hz2'⟩ := info_parts infoByte;show K _ w5;refine hK.out _ _ S5 (fun hHeld5 => ?_);clear hK K hHeld S0 hown5 hb5';walk_nrm;refine wpAnyL_step (i := 11) rfl (by kernel_rfl) (fun K hK => ?_);refine step_append_lies _ rfl (.tmp 105) (.tmp 107) 63 rfl (w.heap.size + 3) 5 i0 _ 1 1 Tryz.underlying63 hi hz0 hz1 hz2' rfl (by decide) (.slice ba by'.length bc) by'.length (by'.map byteV) rfl HO5.out ⟨x, 0, none⟩ (3 + s.size) xc ((recordOf (bl s)).map byteV) rfl HRL.out HNEWS.out HONE.out (by omega) (by unfold maxLen; omega) (by omega) hsz5 _ rfl ?_
       intro g2 cap2 w6 how6 hgr6 hat6 hlt6;obtain ⟨hp6, hc6, hf6⟩ := of_last _ hbd HP1.out hvl1 how6 hgr6 rfl hat6;have hrl : ∀ k, (Value.slice ba by'.length bc).ownBlock = some k → w.heap.size + 3 ≤ k := fun k h => (HO5.out.lt k h).1
       have I0 := (HF0.out.below hbd).grown hgr6 huO;have I1 := (F1.below hbd).grown hgr6 (fun e => by have := hrl _ e; omega);have I2 := (F2.below hbd).grown hgr6 (fun e => by have := hrl _ e; omega);have I3 := (A0.below hbd).grown hgr6 (fun e => by have := HBYL.out _ e; omega);have hb6 : Below w.heap.size w w6 := (hb5.trans (hbd.mono hb5.size)).grown hgr6 (by omega) (fun k h => by have := hrl k h; omega);have S6 : w6.cell? ⟨O, 2, none⟩ = some (.slice (some ⟨b, o, none⟩) (fr.length + 1) vc) ∧ w6.cell? ⟨b, o + fr.length * 2 + 1, none⟩ = some (.slice ba by'.length bc) := ⟨I0.c, hc6⟩;refine hK.out _ _ S6 (fun hHeld6 => ?_);clear hK K hHeld5 S5 how6 hgr6 hat6 HO5 HNEWS HRL HONE hi hz0 hz1 hz2' HO1 HP1 HF0 F1 F2 A0 hbd hb5;walk_nrm;refine tk 12 ?_ rfl (fun _ _ _ h=>h) (y:=?_) (h:=?_);rotate_left
       ·intro wS hSw; go_simp<;>with_reducible rfl
       walk_nrm;refine tk 13 ?_ rfl (fun _ _ _ h=>h) (y:=?_) (h:=?_);rotate_left
       ·intro wS hSw; go_simp<;>with_reducible rfl
       walk_nrm;refine wpAnyL_last rfl (by kernel_rfl) (fun K hK => ?_);obtain ⟨q5, q6⟩ := hHeld6;go_simp;refine hK.out _ _ ?_;clear hK K q5 q6;walk_nrm;refine wpAnyL_done (by kernel_rfl) ?_ _;have J0 := I0.far (b := b) (o := o + fr.length * 2 + 1) (v := .slice (some ⟨g2, 0, none⟩) (by'.length + (3 + s.size)) cap2) hbO;have J1 := I1.far (b := b) (o := o + fr.length * 2 + 1) (v := .slice (some ⟨g2, 0, none⟩) (by'.length + (3 + s.size)) cap2) (by omega);have J2 := I2.far (b := b) (o := o + fr.length * 2 + 1) (v := .slice (some ⟨g2, 0, none⟩) (by'.length + (3 + s.size)) cap2) (by omega);have J3 := I3.far (b := b) (o := o + fr.length * 2 + 1) (v := .slice (some ⟨g2, 0, none⟩) (by'.length + (3 + s.size)) cap2) (by omega);have hb7 : Below w.heap.size w (w6.setCell ⟨b, o + fr.length * 2 + 1, none⟩ (.slice (some ⟨g2, 0, none⟩) (by'.length + (3 + s.size)) cap2)) := hb6.setCell (by show w.heap.size ≤ b; omega) _;have HP6 := hid hp6;clear I0 I1 I2 I3 hb6 hp6 hc6 hf6 S6 hrl
       generalize w6.setCell ⟨b, o + fr.length * 2 + 1, none⟩ (.slice (some ⟨g2, 0, none⟩) (by'.length + (3 + s.size)) cap2) = W5 at *
       obtain ⟨p0, p1, p2, -⟩ := J0;obtain ⟨q0, q1, q2, f1⟩ := J1;obtain ⟨q3, q4, f2⟩ := J2;obtain ⟨r0, r1, -⟩ := J3;have n1 : ¬ w.heap.size + 1 = wc.heap.size := by omega
       have n2 : ¬ w.heap.size + 1 + 1 = wc.heap.size := by omega
       have n3 : ¬ w.heap.size + 1 = O := by omega
       have n4 : ¬ w.heap.size + 1 + 1 = O := by omega
       iterate 3 go_step
       go_region_held3 (fun w' : World => w'.cell? ⟨O, 0, none⟩ = some (.int .i64 f.most) ∧ w'.cell? ⟨O, 1, none⟩ = some (.int .i64 nx) ∧ w'.cell? ⟨O, 2, none⟩ = some (.slice (some ⟨b, o, none⟩) (fr.length + 1) vc) ∧ w'.cell? ⟨wc.heap.size, 0, none⟩ = some (.int .i64 num) ∧ w'.cell? ⟨wc.heap.size, 1, none⟩ = some (.int .i64 (by'.length : Nat))) (go_keep) (fail)
       have I1 := ((((Box3.mk q0 q1 q2 f1).seta (v := .int .i64 f.most)).setb (v := .int .i64 nx)).setc (v := .slice (some ⟨b, o, none⟩) (fr.length + 1) vc));have I2 := (((((Box2.mk q3 q4 f2).far (b := w.heap.size + 1) (o := 0) (v := .int .i64 f.most) (by omega)).far (b := w.heap.size + 1) (o := 1) (v := .int .i64 nx) (by omega)).far (b := w.heap.size + 1) (o := 2) (v := .slice (some ⟨b, o, none⟩) (fr.length + 1) vc) (by omega)).seta (v := .int .i64 num)).setb (v := .int .i64 (by'.length : Nat));have I3 := (I1.far (b := w.heap.size + 1 + 1) (o := 0) (v := .int .i64 num) (by omega)).far (b := w.heap.size + 1 + 1) (o := 1) (v := .int .i64 (by'.length : Nat)) (by omega);have hp7 := ((((HP6.out.setCell_other (F := w.heap.size + 1) (i := 0) (by omega) (.int .i64 f.most)).setCell_other (F := w.heap.size + 1) (i := 1) (by omega) (.int .i64 nx)).setCell_other (F := w.heap.size + 1) (i := 2) (by omega) (.slice (some ⟨b, o, none⟩) (fr.length + 1) vc)).setCell_other (F := w.heap.size + 1 + 1) (i := 0) (by omega) (.int .i64 num)).setCell_other (F := w.heap.size + 1 + 1) (i := 1) (by omega) (.int .i64 (by'.length : Nat));have hb8 := ((((hb7.setCell (p := ⟨w.heap.size + 1, 0, none⟩) (by show w.heap.size ≤ w.heap.size + 1; omega) (.int .i64 f.most)).setCell (p := ⟨w.heap.size + 1, 1, none⟩) (by show w.heap.size ≤ w.heap.size + 1; omega) (.int .i64 nx)).setCell (p := ⟨w.heap.size + 1, 2, none⟩) (by show w.heap.size ≤ w.heap.size + 1; omega) (.slice (some ⟨b, o, none⟩) (fr.length + 1) vc)).setCell (p := ⟨w.heap.size + 1 + 1, 0, none⟩) (by show w.heap.size ≤ w.heap.size + 1 + 1; omega) (.int .i64 num)).setCell (p := ⟨w.heap.size + 1 + 1, 1, none⟩) (by show w.heap.size ≤ w.heap.size + 1 + 1; omega) (.int .i64 (by'.length : Nat));clear HP6 p0 p1 p2 q0 q1 q2 q3 q4 f1 f2 r0 r1 hb7 I1
       generalize ((((W5.setCell ⟨w.heap.size + 1, 0, none⟩ (.int .i64 f.most)).setCell ⟨w.heap.size + 1, 1, none⟩ (.int .i64 nx)).setCell ⟨w.heap.size + 1, 2, none⟩ (.slice (some ⟨b, o, none⟩) (fr.length + 1) vc)).setCell ⟨w.heap.size + 1 + 1, 0, none⟩ (.int .i64 num)).setCell ⟨w.heap.size + 1 + 1, 1, none⟩ (.int .i64 (by'.length : Nat)) = W6 at *
       have I4 : Box3 W6.drew (w.heap.size + 1) (.int .i64 f.most) (.int .i64 nx) (.slice (some ⟨b, o, none⟩) (fr.length + 1) vc) := I3.same rfl;have I5 : Box2 W6.drew (w.heap.size + 1 + 1) (.int .i64 num) (.int .i64 (by'.length : Nat)) := I2.same rfl;have hp9 : PagesAt (w.heap.size + 3) W6.drew b o (fr ++ [⟨num, by' ++ recordOf (bl s)⟩]) (vs' ++ [.slice (some ⟨g2, 0, none⟩) (by'.length + (3 + s.size)) cap2]) := hp7.kept (fun _ _ _ => rfl) (Nat.le_refl _);have hb9 : Below w.heap.size w W6.drew := hb8.drew;clear hp7 hb8 I3 I2
       generalize W6.drew = W7 at *
       have hrows := hp9.rows (by
        intro q hq
        rcases List.mem_append.1 hq with h | h
        ·exact HPB.out.1 q h
        ·simp at h; subst h
         refine ⟨HPB.out.2, ?_⟩;show (by' ++ recordOf (bl s)).length ≤ reachBytes;rw [List.length_append, recordOf_length (n := s.size) (bl_length s)];have : reachBytes = 140737488351232 := rfl
         omega)
       iterate 3 go_step
       refine bodyPost_ret (v := .tuple #[.agg #[.int .i64 f.most, .int .i64 nx, .slice (some ⟨b, o, none⟩) (fr.length + 1) vc], .agg #[.int .i64 num, .int .i64 (by'.length : Nat)], .int .i64 gone, .int .i64 0]) (of_results _ _ (w.heap.size + 1) (w.heap.size + 1 + 1) _ _ _ _ _ _ _ rfl rfl rfl rfl I4.a I4.b I4.c I5.a I5.b) rfl ⟨some ⟨b, o, none⟩, vc, ?_, ?_, hb9, ?_⟩
       ·rw [HB.out]; simp [AppV]
       ·rw [HB.out]; exact hrows
       ·rw [HB.out]; exact .inr ⟨b, o, _, rfl, hp9.base (by omega)⟩
end Go.Proofs.YtbeegfkfpkfccaaGreatDoor.D
