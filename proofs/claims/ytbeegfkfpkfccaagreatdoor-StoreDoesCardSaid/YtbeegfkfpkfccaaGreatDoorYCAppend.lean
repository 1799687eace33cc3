/-
 Contract: flash.Append: where a value goes, in memory of the call's own.
-/
import Derived.Test.YtbeegfkfpkfccaaGreatDoorYRd
import Derived.Test.YtbeegfkfpkfccaaGreatDoorYOwn
import Derived.Test.YtbeegfkfpkfccaaGreatDoorYPlain
import Derived.Deep.DeepCutAuto
import Derived.Deep.CutBlock
import Derived.Deep.RegionLaw
import Derived.Deep.RegionHeld3
import Derived.Lib.AppendStr
import Derived.Conc.WalkWords
namespace Go.Proofs.YtbeegfkfpkfccaaGreatDoor.D
open Go.RowKit
def AppV (r : Flash × Place × Int × Int) (v : Value) : Value :=
 .tuple #[.agg #[.int .i64 r.1.most, .int .i64 r.1.next, v], .agg #[.int .i64 r.2.1.page, .int .i64 r.2.1.off], .int .i64 r.2.2.1, .int .i64 r.2.2.2]
def AppEnd (f : Flash) (s : Str) (w : World) (e : Ending) (w' : World) : Prop :=
 ∃ v vs, e = .returned (AppV (f.append s) v) ∧ PagesOwn w.heap.size w' v (f.append s).1.pages vs ∧ Below w.heap.size w w'
theorem pages_nil (base : Nat) (w : World) : PagesOwn base w (.slice none 0 0) [] [] :=
 PagesOwn.mk rfl (World.ownsRow_nil _ _ _ _) (fun j p u h => by simp at h) (fun i j u u' b _ h => by simp at h)
theorem appEnd_no {f : Flash} {s : Str} {n : Int} {w w' : World} (h : f.append s = (Flash.zero, ⟨0, 0⟩, 0, n)) (hb : Below w.heap.size w w') :
  AppEnd f s w (.returned (.tuple #[.agg #[.int .i64 0, .int .i64 0, .slice none 0 0], .agg #[.int .i64 0, .int .i64 0], .int .i64 0, .int .i64 n])) w' :=
 ⟨.slice none 0 0, [], by rw [h]; rfl, by rw [h]; exact pages_nil _ _, hb⟩
theorem app_results (W : World) (tm : Array Value) (G H : Nat) (m n pg po go e : Int) (v : Value) (h4 : tm[4]? = some (.pointer (some ⟨G, 0, none⟩))) (h5 : tm[5]? = some (.pointer (some ⟨H, 0, none⟩))) (h6 : tm[6]? = some (.int .i64 go)) (h7 : tm[7]? = some (.int .i64 e))
  (c0 : W.cell? ⟨G, 0, none⟩ = some (.int .i64 m)) (c1 : W.cell? ⟨G, 1, none⟩ = some (.int .i64 n)) (c2 : W.cell? ⟨G, 2, none⟩ = some v) (d0 : W.cell? ⟨H, 0, none⟩ = some (.int .i64 pg)) (d1 : W.cell? ⟨H, 1, none⟩ = some (.int .i64 po)) :
  (results Tryz.f147 tm).run Tryz.prog W = .ok (.tuple #[.agg #[.int .i64 m, .int .i64 n, v], .agg #[.int .i64 pg, .int .i64 po], .int .i64 go, .int .i64 e]) W := by
 simp [results, Tryz.results147, go_sem, h4, h5, h6, h7, c0, c1, c2, d0, d1]
theorem app_last {base : Nat} {W1 WA w3 w4 : World} {g g2 n bc vc : Nat} (H : Nat) {ba ua : Option Addr} {uc : Nat} {fr : List Page} {vs' : List Value} {num : Int} {by' : Str} {s : ByteArray} (hn : n = sumOf (bl s)) (hs : s.size ≤ 200)
  (hA : Below W1.heap.size W1 WA) (hp : PagesOwn base W1 (.slice (some ⟨g, 0, none⟩) (fr.length + 1) vc) (fr ++ [⟨num, by'⟩]) (vs' ++ [.slice ba by'.length bc])) (hl : vs'.length = fr.length)
  (how4 : w4.ownsRow base 5 1 (.slice ua (by'.length + 3 + s.size) uc) (by'.length + 3 + s.size) (by'.map byteV ++ .int .u8 (s.size : Nat) :: .int .u8 ((n : Int) / 256) :: .int .u8 ((n : Int) % 256) :: Lib.strCells s))
  (h3 : WA.grownBy w3 (Value.slice ba by'.length bc).ownBlock) (hH : WA.heap.size = H) (ha3 : (Value.slice ba by'.length bc).ownBlock = some g2 ∨ g2 = H) (h4 : w3.grownBy w4 (some g2)) (ha4 : ∀ k, (Value.slice ua (by'.length + 3 + s.size) uc).ownBlock = some k → some g2 = some k ∨ k = w3.heap.size) :
  PagesOwn base (w4.setCell ⟨g, fr.length * 2 + 1, none⟩ (.slice ua (by'.length + 3 + s.size) uc)) (.slice (some ⟨g, 0, none⟩) (fr.length + 1) vc) (fr ++ [⟨num, by' ++ recordOf (bl s)⟩]) (vs' ++ [.slice ua (by'.length + 3 + s.size) uc]) ∧
   WA.grownBy w4 (Value.slice ba by'.length bc).ownBlock ∧ (∃ x, w4.cell? ⟨g, fr.length * 2 + 1, none⟩ = some x) ∧ w4.frozen? ⟨g, fr.length * 2 + 1, none⟩ = false := by
 subst hn hH;have hpA := hp.below hA;have hg : WA.grownBy w4 (Value.slice ba by'.length bc).ownBlock := grown_two h3 h4 (ha3.imp id (fun e => Nat.le_of_eq e.symm));have hlen : (by' ++ recordOf (bl s)).length = by'.length + 3 + s.size := by rw [List.length_append, recordOf_length (n := s.size) (bl_length s)]; omega
 have hcells : by'.map byteV ++ .int .u8 (s.size : Nat) :: .int .u8 ((sumOf (bl s) : Int) / 256) :: .int .u8 ((sumOf (bl s) : Int) % 256) :: Lib.strCells s = (by' ++ recordOf (bl s)).map byteV := by
  rw [List.map_append, ← rec_cells s hs]; rfl
 have hu0 := hpA.byte fr.length ⟨num, by'⟩ (.slice ba by'.length bc) (by simp) (by rw [← hl]; simp);have hrow := hpA.row.kept hg (own_types hpA.row hu0 (by decide));have hc := own_cell (base := base) (e := 98) (size := 2) (g := g) (cap := vc) (n := fr.length + 1) (by have h := hrow; rw [show (fr ++ [(⟨num, by'⟩ : Page)]).length = fr.length + 1 by simp] at h; exact h) (fr.length * 2 + 1) (by omega);refine ⟨hpA.last hl hg ?_ ?_, hg, Option.isSome_iff_exists.1 hc.1, hc.2⟩
 ·rw [hlen, ← hcells]; exact how4
 ·intro k hk
  rcases ha4 k hk with e | e
  ·cases e
   exact ha3.imp id (fun e => Nat.le_of_eq e.symm)
  ·right; rw [e]; exact h3.size
theorem pages_one {base : Nat} {w : World} {v : Value} {ps : List Page} {vs : List Value} (h : PagesOwn base w v ps vs) : (pageCells ps vs).all (·.oneCell') = true := by
 have hall : ∀ u ∈ vs, u.oneCell' = true := by
  intro u hu;obtain ⟨j, hj, rfl⟩ := List.getElem_of_mem hu;have hl := h.len;obtain ⟨a, c, hv⟩ := own_slice (h.byte j _ _ (List.getElem?_eq_getElem (by omega)) (List.getElem?_eq_getElem hj));rw [hv]; rfl
 have gen : ∀ (ps : List Page) (vs : List Value), (∀ u ∈ vs, u.oneCell' = true) → (pageCells ps vs).all (·.oneCell') = true := by
  intro ps
  induction ps with
  | nil => intro vs _; cases vs <;> rfl
  | cons p ps ih =>
   intro vs hvs
   cases vs with
   | nil => rfl
   | cons u vs =>
    simp only [pageCells, List.all_cons, hvs u (by simp), ih vs (fun u hu => hvs u (by simp [hu])), Bool.and_true]
    rfl
 exact gen ps vs hall
theorem app_made {f : Flash} {n : Nat} {fr : List Page} {go : Int} {w w3 : World} {sl : Value} {va : Option Addr} {cp : Nat} {vs : List Value} (hpr : f.prep n = ⟨fr, f.next, [], f.next + 1, go⟩)
  (h0 : Box3 w3 w.heap.size (.int .i64 f.most) (.int .i64 f.next) sl) (h1 : Box3 w3 (w.heap.size + 1) (.int .i64 0) (.int .i64 0) (.slice none 0 0)) (h2 : Box2 w3 (w.heap.size + 1 + 1) (.int .i64 0) (.int .i64 0))
  (hp : PagesOwn (w.heap.size + 3) w3 (.slice va (fr.length + 1) cp) (fr ++ [⟨f.next, []⟩]) (vs ++ [.slice none 0 0])) (hb : Below w.heap.size w w3) (hl : vs.length = fr.length) :
  ∃ va' vc' vs' u, Value.int .i64 go = .int .i64 (f.prep n).gone ∧ Box3 ((w3.setCell ⟨w.heap.size, 2, none⟩ (.slice va (fr.length + 1) cp)).setCell ⟨w.heap.size, 1, none⟩ (.int .i64 (f.next + 1))) w.heap.size (.int .i64 f.most) (.int .i64 (f.prep n).next) (.slice va' ((f.prep n).front.length + 1) vc') ∧
   Box3 ((w3.setCell ⟨w.heap.size, 2, none⟩ (.slice va (fr.length + 1) cp)).setCell ⟨w.heap.size, 1, none⟩ (.int .i64 (f.next + 1))) (w.heap.size + 1) (.int .i64 0) (.int .i64 0) (.slice none 0 0) ∧
   Box2 ((w3.setCell ⟨w.heap.size, 2, none⟩ (.slice va (fr.length + 1) cp)).setCell ⟨w.heap.size, 1, none⟩ (.int .i64 (f.next + 1))) (w.heap.size + 1 + 1) (.int .i64 0) (.int .i64 0) ∧
   PagesOwn (w.heap.size + 3) ((w3.setCell ⟨w.heap.size, 2, none⟩ (.slice va (fr.length + 1) cp)).setCell ⟨w.heap.size, 1, none⟩ (.int .i64 (f.next + 1))) (.slice va' ((f.prep n).front.length + 1) vc') (f.prep n).pages (vs' ++ [u]) ∧ vs'.length = (f.prep n).front.length ∧
   Below w.heap.size w ((w3.setCell ⟨w.heap.size, 2, none⟩ (.slice va (fr.length + 1) cp)).setCell ⟨w.heap.size, 1, none⟩ (.int .i64 (f.next + 1))) := by
 rw [hpr];refine ⟨va, cp, vs, .slice none 0 0, rfl, h0.setc.setb, (h1.far (by omega)).far (by omega), (h2.far (by omega)).far (by omega), ?_, hl, (hb.setCell (Nat.le_refl _) _).setCell (Nat.le_refl _) _⟩;exact ((hp.setCell_below (a := ⟨w.heap.size, 2, none⟩) (by show w.heap.size < w.heap.size + 3; omega) _).setCell_below (a := ⟨w.heap.size, 1, none⟩) (by show w.heap.size < w.heap.size + 3; omega) _).world
theorem list_page {ops : Array Oper} {rest : List Oper} {o : Oper} {a : Act} {Q : Exit → Act → World → Prop} (W : World) (hgd : o.guard = none) (s x : Operand)
  (ho : o.op = .call { callee := .builtin .append, args := #[s, x], argTypes := #[24, 24] }) (base k B : Nat) (v u : Value) (pn : Int) (xs : List Value)
  (hs : a.eval s = v) (hx : a.eval x = .slice (some ⟨B, 0, none⟩) 1 1) (hown : W.ownsRow base 98 2 v k xs) (hb : W.heap[B]? = some (.cells #[.int .i64 pn, u] 98 (0, 0))) (hu : u.oneCell' = true)
  (hk : (k + 1) * 32 ≤ 140737488355328) (hbase : base ≤ W.heap.size)
  (h : ∀ g cap w', w'.ownsRow base 98 2 (.slice (some ⟨g, 0, none⟩) (k + 1) cap) (k + 1) (xs ++ [.int .i64 pn, u]) → W.grownBy w' v.ownBlock → (v.ownBlock = some g ∨ g = W.heap.size) → g < w'.heap.size → wpList Tryz.prog ops Q rest (a.put o.dst (.slice (some ⟨g, 0, none⟩) (k + 1) cap)) w') :
  wpList Tryz.prog ops Q (o :: rest) a W := by
 obtain ⟨j0, hj, hw0, hw1, hw2⟩ := info_parts infoPage;exact wpList_append_lies W hgd s x _ ho base 98 j0 _ 2 32 Tryz.underlying24 hj hw0 hw1 hw2 rfl (by decide) v k xs hs hown ⟨B, 0, none⟩ 1 1 [.int .i64 pn, u] hx rfl (World.news_of_block hb) (ones (by rw [List.all_cons, List.all_cons, hu]; rfl)) (by decide) (by unfold maxLen; omega) hk hbase _ rfl h
theorem fsum_any (s : ByteArray) (n : Nat) (hn : Hid (n = sumOf (bl s))) (w : World) (hs : s.size ≤ 9223372036854775807) :
  Calls Tryz.prog 100 #[.string s] w fun e w' => e = .returned (.int .i64 n) ∧ w = w' := by
 have := hn.out;subst this;exact flash_sum s w hs
set_option maxHeartbeats 10000000 in
set_option maxRecDepth 100000 in
theorem flash_Append (f : Flash) (s : ByteArray) (a : Option Addr) (c : Nat) (w : World) (h : RowsAt w a 2 (PageR w) f.pages) :
  Calls Tryz.prog 147 #[.agg #[.int .i64 f.most, .int .i64 f.next, .slice a f.pages.length c], .string s] w (AppEnd f (bl s) w) := by
 have HR := hid h;clear h
 cases hok : f.ok
 ·have HC : Hid (f.chk = 8) := by show f.chk = 8; unfold Flash.chk; rw [hok]; rfl
  have HB := hid (append_bad (s := bl s) hok);clear hok
  as_aux_lemma =>
   go_enter Tryz.func147, Tryz.ntmps147
   go_wp2_with fail
   refine (check_is f 8 HC a c _ ?_).mono ?_
   ·exact HR.out.keep (Below.keeps (by go_grown)) (PageR.keep (Below.keeps (by go_grown)))
   rintro e w1 ⟨rfl, hb⟩;have q0 : w1.cell? ⟨w.heap.size + 1, 0, none⟩ = some (.int .i64 0) := (hb.cell (p := ⟨w.heap.size + 1, 0, none⟩) (by go_size)).trans (by go_simp);have q1 : w1.cell? ⟨w.heap.size + 1, 1, none⟩ = some (.int .i64 0) := (hb.cell (p := ⟨w.heap.size + 1, 1, none⟩) (by go_size)).trans (by go_simp);have q2 : w1.cell? ⟨w.heap.size + 1, 2, none⟩ = some (.slice none 0 0) := (hb.cell (p := ⟨w.heap.size + 1, 2, none⟩) (by go_size)).trans (by go_simp);have q3 : w1.cell? ⟨w.heap.size + 1 + 1, 0, none⟩ = some (.int .i64 0) := (hb.cell (p := ⟨w.heap.size + 1 + 1, 0, none⟩) (by go_size)).trans (by go_simp);have q4 : w1.cell? ⟨w.heap.size + 1 + 1, 1, none⟩ = some (.int .i64 0) := (hb.cell (p := ⟨w.heap.size + 1 + 1, 1, none⟩) (by go_size)).trans (by go_simp);have f1 : ∀ j, w1.frozen? ⟨w.heap.size + 1, j, none⟩ = false := fun j => (hb.frozen (p := ⟨w.heap.size + 1, j, none⟩) (by go_size)).trans (by go_simp)
   have f2 : ∀ j, w1.frozen? ⟨w.heap.size + 1 + 1, j, none⟩ = false := fun j => (hb.frozen (p := ⟨w.heap.size + 1 + 1, j, none⟩) (by go_size)).trans (by go_simp)
   have hbw : Below w.heap.size w w1 := Below.trans (by go_grown) (hb.mono (by go_size));clear hb
   go_wp2_with fail
   refine bodyPost_ret (v := .tuple #[.agg #[.int .i64 0, .int .i64 0, .slice none 0 0], .agg #[.int .i64 0, .int .i64 0], .int .i64 0, .int .i64 8]) (app_results _ _ (w.heap.size + 1) (w.heap.size + 1 + 1) _ _ _ _ _ _ _ rfl rfl rfl rfl (by go_simp) (by go_simp) (by go_simp) (by go_simp) (by go_simp)) rfl (appEnd_no HB.out ?_)
   repeat' (first | with_reducible exact hbw | refine Below.drew ?_ | refine Below.setCell ?_ ?_ _ | (simp <;> omega))
 ·have HC : Hid (f.chk = 0) := by show f.chk = 0; unfold Flash.chk; rw [hok]; rfl
  have HM := hid (ok_mem hok);obtain ⟨l1, l2, l3, l4, l5, l6⟩ := ok_len hok;have HOK := hid hok;clear hok
  go_enter Tryz.func147, Tryz.ntmps147
  go_wp2_with fail
  refine (check_is f 0 HC a c _ ?_).mono ?_
  ·exact HR.out.keep (Below.keeps (by go_grown)) (PageR.keep (Below.keeps (by go_grown)))
  rintro e w1 ⟨rfl, hb⟩;have hbw : Below w.heap.size w w1 := Below.trans (by go_grown) (hb.mono (by go_size));have B0 : Box3 w1 w.heap.size (.int .i64 f.most) (.int .i64 f.next) (.slice a f.pages.length c) := Box3.below ⟨by go_simp, by go_simp, by go_simp, fun j => by go_simp⟩ hb;have B1 : Box3 w1 (w.heap.size + 1) (.int .i64 0) (.int .i64 0) (.slice none 0 0) := Box3.below ⟨by go_simp, by go_simp, by go_simp, fun j => by go_simp⟩ hb;have B2 : Box2 w1 (w.heap.size + 1 + 1) (.int .i64 0) (.int .i64 0) := Box2.below ⟨by go_simp, by go_simp, fun j => by go_simp⟩ hb;have hz : w.heap.size + 3 ≤ w1.heap.size := by have := hb.size; simp at this; omega
  clear hb
  by_cases h2 : 200 < s.size
  ·
   as_aux_lemma =>
    have HB := hid (append_long (s := bl s) HOK.out (by rw [bl_length]; exact h2));obtain ⟨q0, q1, q2, f1⟩ := B1;obtain ⟨q3, q4, f2⟩ := B2;clear B0
    go_wp2_with fail
    refine bodyPost_ret (v := .tuple #[.agg #[.int .i64 0, .int .i64 0, .slice none 0 0], .agg #[.int .i64 0, .int .i64 0], .int .i64 0, .int .i64 1]) (app_results _ _ (w.heap.size + 1) (w.heap.size + 1 + 1) _ _ _ _ _ _ _ rfl rfl rfl rfl (by go_simp) (by go_simp) (by go_simp) (by go_simp) (by go_simp)) rfl (appEnd_no HB.out ?_)
    repeat' (first | with_reducible exact hbw | refine Below.drew ?_ | refine Below.setCell ?_ ?_ _ | (simp <;> omega))
  ·by_cases h3 : f.most = 0
   ·
    as_aux_lemma =>
     have HB := hid (append_full (s := bl s) HOK.out (by rw [bl_length]; exact h2) (.inl h3));rw [h3] at B0;obtain ⟨q0, q1, q2, f1⟩ := B1;obtain ⟨q3, q4, f2⟩ := B2;obtain ⟨p0, p1, p2, f0⟩ := B0;have H3 := hid h3;clear h3
     go_wp2_with fail
     refine bodyPost_ret (v := .tuple #[.agg #[.int .i64 0, .int .i64 0, .slice none 0 0], .agg #[.int .i64 0, .int .i64 0], .int .i64 0, .int .i64 7]) (app_results _ _ (w.heap.size + 1) (w.heap.size + 1 + 1) _ _ _ _ _ _ _ rfl rfl rfl rfl (by go_simp) (by go_simp) (by go_simp) (by go_simp) (by go_simp)) rfl (appEnd_no HB.out ?_)
     repeat' (first | with_reducible exact hbw | refine Below.drew ?_ | refine Below.setCell ?_ ?_ _ | (simp <;> omega))
   ·by_cases h4 : f.next = 1099511627776
    ·
     as_aux_lemma =>
      have HB := hid (append_full (s := bl s) HOK.out (by rw [bl_length]; exact h2) (.inr h4));obtain ⟨q0, q1, q2, f1⟩ := B1;obtain ⟨q3, q4, f2⟩ := B2;obtain ⟨p0, p1, p2, f0⟩ := B0;have t3 : (f.most == 0) = false := by simp [h3]
      have t4 : (f.next == 1099511627776) = true := by simp [h4]
      have H4 := hid h4;clear h4
      go_wp2_with fail
      refine bodyPost_ret (v := .tuple #[.agg #[.int .i64 0, .int .i64 0, .slice none 0 0], .agg #[.int .i64 0, .int .i64 0], .int .i64 0, .int .i64 7]) (app_results _ _ (w.heap.size + 1) (w.heap.size + 1 + 1) _ _ _ _ _ _ _ rfl rfl rfl rfl (by go_simp) (by go_simp) (by go_simp) (by go_simp) (by go_simp)) rfl (appEnd_no HB.out ?_)
      repeat' (first | with_reducible exact hbw | refine Below.drew ?_ | refine Below.setCell ?_ ?_ _ | (simp <;> omega))
    ·
     have t3 : (f.most == 0) = false := by simp [h3]
     have t4 : (f.next == 1099511627776) = false := by simp [h4]
     have H3 := hid h3;have H4 := hid h4;clear h3 h4;obtain ⟨p0, p1, p2, f0⟩ := B0
     go_wp2_with fail
     refine (flash_Copy f a c _ ?_ (by omega) ?_).mono ?_
     ·exact HR.out.keep (Below.keeps hbw) (PageR.keep (Below.keeps hbw))
     ·intro p hp; have := HM.out p hp; omega
     rintro e w2 ⟨v, vs, rfl, hpm, hb2⟩;obtain ⟨va, vc, hv⟩ := own_slice hpm.row;rw [hv] at hpm ⊢;clear hv;have hbw2 : Below w.heap.size w w2 := hbw.trans (hb2.mono hbw.size);have hz2 : w.heap.size + 3 ≤ w2.heap.size := Nat.le_trans hz hb2.size;have D1 := B1.below hb2;have D2 := B2.below hb2;have D0 := Box3.below ⟨p0, p1, p2, f0⟩ hb2;have hpm3 := (((hpm.setCell_below (a := ⟨w.heap.size, 0, none⟩) (by show w.heap.size < w1.heap.size; omega) (.int .i64 f.most)).setCell_below (a := ⟨w.heap.size, 1, none⟩) (by show w.heap.size < w1.heap.size; omega) (.int .i64 f.next)).setCell_below (a := ⟨w.heap.size, 2, none⟩) (by show w.heap.size < w1.heap.size; omega) (.slice va f.pages.length vc));have hpm4 := (hpm3.world (w0' := ((w2.setCell ⟨w.heap.size, 0, none⟩ (.int .i64 f.most)).setCell ⟨w.heap.size, 1, none⟩ (.int .i64 f.next)).setCell ⟨w.heap.size, 2, none⟩ (.slice va f.pages.length vc))).base hz;clear hpm hpm3 B1 B2 p0 p1 p2 f0 hbw hz;obtain ⟨p0, p1, p2, f0⟩ := D0;go_upto_region 10 with (fail);have E0 : Box3 (((w2.setCell ⟨w.heap.size, 0, none⟩ (.int .i64 f.most)).setCell ⟨w.heap.size, 1, none⟩ (.int .i64 f.next)).setCell ⟨w.heap.size, 2, none⟩ (.slice va f.pages.length vc)) w.heap.size (.int .i64 f.most) (.int .i64 f.next) (.slice va f.pages.length vc) := (Box3.mk p0 p1 p2 f0).seta.setb.setc;have E1 := ((D1.far (b := w.heap.size) (o := 0) (v := .int .i64 f.most) (by omega)).far (b := w.heap.size) (o := 1) (v := .int .i64 f.next) (by omega)).far (b := w.heap.size) (o := 2) (v := .slice va f.pages.length vc) (by omega);have E2 := ((D2.far (b := w.heap.size) (o := 0) (v := .int .i64 f.most) (by omega)).far (b := w.heap.size) (o := 1) (v := .int .i64 f.next) (by omega)).far (b := w.heap.size) (o := 2) (v := .slice va f.pages.length vc) (by omega);have hb3 : Below w.heap.size w (((w2.setCell ⟨w.heap.size, 0, none⟩ (.int .i64 f.most)).setCell ⟨w.heap.size, 1, none⟩ (.int .i64 f.next)).setCell ⟨w.heap.size, 2, none⟩ (.slice va f.pages.length vc)) := ((hbw2.setCell (Nat.le_refl _) _).setCell (Nat.le_refl _) _).setCell (Nat.le_refl _) _;have hz3 : w.heap.size + 3 ≤ (((w2.setCell ⟨w.heap.size, 0, none⟩ (.int .i64 f.most)).setCell ⟨w.heap.size, 1, none⟩ (.int .i64 f.next)).setCell ⟨w.heap.size, 2, none⟩ (.slice va f.pages.length vc)).heap.size := by go_size
     clear p0 p1 p2 f0 D1 D2 hbw2 hz2 hb2
     generalize (((w2.setCell ⟨w.heap.size, 0, none⟩ (.int .i64 f.most)).setCell ⟨w.heap.size, 1, none⟩ (.int .i64 f.next)).setCell ⟨w.heap.size, 2, none⟩ (.slice va f.pages.length vc)) = W at *
     obtain ⟨l7, l8⟩ := prep_small (f := f) (n := s.size) l1 (by omega);have hba := append_good (s := bl s) HOK.out (by rw [bl_length]; exact h2) (fun h => h.elim H3.out H4.out);rw [bl_length] at hba;have HB := hid hba;clear hba;have hs : s.size ≤ 200 := by omega
     have hc2 := E0.c;have HP4 := hid hpm4;clear hpm4 HR HC t3 t4;go_upto_region 11 with (fail)
     go_cut [59] (fun t wx => t = .bool (!(f.fits s.size)) ∧ W = wx)
     case first =>
      as_aux_lemma =>
       cases hf : f.fits s.size
       ·rcases fits_no hf with h0 | ⟨front, num, by', h0, hlen⟩
        ·
         have hn : f.pages.length = 0 := by rw [h0]; rfl
         have hn0 : (f.pages.length : Int) - 1 < 0 := by omega
         have HN := hid hn;have HF := hid hf;clear hn h0 hf
         go_wp2_with fail
         go_meet;exact ⟨by rw [HF.out]; rfl, rfl⟩
        ·
         have hn : f.pages.length = front.length + 1 := by rw [h0]; simp
         have hn0 : ¬ (f.pages.length : Int) - 1 < 0 := by omega
         have hp5 := HP4.out;rw [h0] at hp5;obtain ⟨g, ba, bc, vs', rfl, hg, hg2, hnc, rfl, hvl, hcn, hcb, _, hcm⟩ := hp5.lastOf;have hcb' : W.cell? ⟨g, (f.pages.length - 1) * 2 + 1, none⟩ = some (.slice ba by'.length bc) := by rw [hn]; exact hcb
         have hbl : by'.length ≤ 256 := (HM.out ⟨num, by'⟩ (by rw [h0]; simp)).2.2
         have HN := hid hn;have HF := hid hf;have hvm := le_maxLen hcm;clear hn h0 hf hp5 hcb hcn hcm
         go_wp2_with fail
         go_meet;exact ⟨by rw [HF.out]; simp; omega, rfl⟩
       ·
        obtain ⟨front, num, by', h0, hlen, _⟩ := fits_split hf;have hn : f.pages.length = front.length + 1 := by rw [h0]; simp
        have hn0 : ¬ (f.pages.length : Int) - 1 < 0 := by omega
        have hp5 := HP4.out;rw [h0] at hp5;obtain ⟨g, ba, bc, vs', rfl, hg, hg2, hnc, rfl, hvl, hcn, hcb, _, hcm⟩ := hp5.lastOf;have hcb' : W.cell? ⟨g, (f.pages.length - 1) * 2 + 1, none⟩ = some (.slice ba by'.length bc) := by rw [hn]; exact hcb
        have HN := hid hn;have HF := hid hf;have hvm := le_maxLen hcm;clear hn h0 hf hp5 hcb hcn hcm
        go_wp2_with fail
        go_meet;exact ⟨by rw [HF.out]; simp; omega, rfl⟩
     case rest =>
      obtain ⟨rfl, rfl⟩ := hcut
      go_upto_if 59 with (fail)
      go_cut [9] (fun gone wx => ∃ va vc vs u, gone = .int .i64 (f.prep s.size).gone ∧ Box3 wx w.heap.size (.int .i64 f.most) (.int .i64 (f.prep s.size).next) (.slice va ((f.prep s.size).front.length + 1) vc) ∧
       Box3 wx (w.heap.size + 1) (.int .i64 0) (.int .i64 0) (.slice none 0 0) ∧ Box2 wx (w.heap.size + 1 + 1) (.int .i64 0) (.int .i64 0) ∧
       PagesOwn (w.heap.size + 3) wx (.slice va ((f.prep s.size).front.length + 1) vc) (f.prep s.size).pages (vs ++ [u]) ∧ vs.length = (f.prep s.size).front.length ∧ Below w.heap.size w wx)
      case first =>
       cases hf : f.fits s.size
       ·
        have HF := hid hf;clear hf
        by_cases hm : (f.pages.length : Int) = f.most
        ·
         as_aux_lemma =>
          have hpr := prep_shift HF.out hm;have t5 : ((f.pages.length : Int) == f.most) = true := by simp [hm]
          have H5 := hid hm;have HPR := hid hpr;have HE0 := hid E0;have p0 := E0.a;have p1 := E0.b;have p2 := E0.c;have pf := E0.free;have hpos : 0 < f.pages.length := by have := H3.out; omega
          obtain ⟨ph, pt, hpe⟩ : ∃ ph pt, f.pages = ph :: pt := by
           cases h : f.pages with
           | nil => rw [h] at hpos; cases hpos
           | cons a b => exact ⟨a, b, rfl⟩
          obtain ⟨vh, vt, hve⟩ : ∃ vh vt, vs = vh :: vt := by
           have h1 := HP4.out.len
           cases h : vs with
           | nil => rw [h, hpe] at h1; cases h1
           | cons a b => exact ⟨a, b, rfl⟩
          have hnt : f.pages.length = pt.length + 1 := by rw [hpe]; rfl
          obtain ⟨g, hva, hg1, hg2⟩ := own_some HP4.out.row hpos;subst hva
          have hc0 : W.cell? ⟨g, 0, none⟩ = some (.int .i64 ph.number) := by
           have h := HP4.out.row.cells (g := g) rfl 0 (.int .i64 ph.number) (by rw [hpe, hve]; rfl)
           rwa [addr_add] at h
          have hcap : f.pages.length ≤ vc ∧ vc ≤ 9223372036854775807 := by
           obtain ⟨_, _, hv, _, _, h1, h2, _⟩ := own_shape HP4.out.row hpos
           cases hv; exact ⟨h1, le_maxLen h2⟩
          obtain ⟨hcap1, hcap2⟩ := hcap;have HPE := hid hpe;have HVE := hid hve;have HNT := hid hnt;have hone : Hid ((pageCells f.pages vs).all (·.oneCell') = true) := pages_one HP4.out;have HROW := hid HP4.out.row;clear hm hpr E0 hpe hve hnt
          go_wp2_with fail
          refine (delete_page (w.heap.size + 3) g vc f.pages.length 0 (pageCells f.pages vs) W 0 1 rfl rfl HROW.out hpos hone.out).mono ?_;rintro e w3 ⟨rfl, how3, hgr3⟩;have hm1 : f.pages.length - 1 = pt.length := by rw [HNT.out]; rfl
          have hps : PagesOwn (w.heap.size + 3) w3 (.slice (some ⟨g, 0, none⟩) pt.length vc) pt vt := by
           have h := HP4.out;rw [hm1, HPE.out, HVE.out] at how3;have h2 : PagesOwn (w.heap.size + 3) W (.slice (some ⟨g, 0, none⟩) f.pages.length vc) (ph :: pt) (vh :: vt) := by rw [← HPE.out, ← HVE.out]; exact h
           refine h2.tail (fun x m xs hx => hx.kept hgr3 ?_) how3;exact own_types hx HROW.out (by decide)
          rw [hm1];have hne : ∀ F, F < w.heap.size + 3 → some g ≠ some F := fun F hF h => by cases h; omega
          have K0 := (HE0.out.grown hgr3 (hne _ (by omega))).setc (v := .slice (some ⟨g, 0, none⟩) pt.length vc);have K1 := (E1.grown hgr3 (hne _ (by omega))).far (b := w.heap.size) (o := 2) (v := .slice (some ⟨g, 0, none⟩) pt.length vc) (by omega);have K2 := (E2.grown hgr3 (hne _ (by omega))).far (b := w.heap.size) (o := 2) (v := .slice (some ⟨g, 0, none⟩) pt.length vc) (by omega);have hb4 : Below w.heap.size w (w3.setCell ⟨w.heap.size, 2, none⟩ (.slice (some ⟨g, 0, none⟩) pt.length vc)) := (hb3.grown hgr3 (by omega) (fun b h => by cases h; omega)).setCell (Nat.le_refl _) _;have hps4 : PagesOwn (w.heap.size + 3) (w3.setCell ⟨w.heap.size, 2, none⟩ (.slice (some ⟨g, 0, none⟩) pt.length vc)) (.slice (some ⟨g, 0, none⟩) pt.length vc) pt vt := (hps.setCell_below (a := ⟨w.heap.size, 2, none⟩) (by show w.heap.size < w.heap.size + 3; omega) _).world;have hz4 : w.heap.size + 3 ≤ (w3.setCell ⟨w.heap.size, 2, none⟩ (.slice (some ⟨g, 0, none⟩) pt.length vc)).heap.size := by have := hgr3.size; simp; omega
          obtain ⟨p0, p1, p2, pf⟩ := HE0.out.grown hgr3 (hne _ (by omega));have hpt : pt.length ≤ 20 := by omega
          clear hps how3 hgr3 HROW hc0 HP4 hm1;go_upto_region 15 with (fail);clear p0 p1 p2 pf
          generalize w3.setCell ⟨w.heap.size, 2, none⟩ (.slice (some ⟨g, 0, none⟩) pt.length vc) = W4 at *
          have HK0 := hid K0;obtain ⟨p0, p1, p2, pf⟩ := K0;have hk1 : (pt.length + 1) * 32 ≤ 140737488355328 := by omega
          have Hblk : Hid ((W4.alloc (.cells #[.int .i64 f.next, .slice none 0 0] 98)).heap[W4.heap.size]? = some (.cells #[.int .i64 f.next, .slice none 0 0] 98 (0, 0))) := blk_new W4 _;have HOW := hid (hps4.row.alloc (.cells #[.int .i64 f.next, .slice none 0 0] 98));have HP4 := hid hps4;clear hps4
          go_wp2_with (at_builtin; go_must (refine list_page _ rfl (.tmp 76) (.tmp 80) rfl (w.heap.size + 3) pt.length W4.heap.size (.slice (some ⟨g, 0, none⟩) pt.length vc) (.slice none 0 0) f.next _ rfl rfl HOW.out Hblk.out rfl hk1 (by simp; omega) ?_))
          intro gp cp w3 how3 hgr3 hat3 hlt3;have hne : ∀ F, F < w.heap.size + 3 → (Value.slice (some ⟨g, 0, none⟩) pt.length vc).ownBlock ≠ some F := fun F hF h => by have := (HOW.out.lt F h).1; omega
          have J0 := (HK0.out.alloc (.cells #[.int .i64 f.next, .slice none 0 0] 98)).grown hgr3 (hne _ (by omega));have J1 := (K1.alloc (.cells #[.int .i64 f.next, .slice none 0 0] 98)).grown hgr3 (hne _ (by omega));have J2 := (K2.alloc (.cells #[.int .i64 f.next, .slice none 0 0] 98)).grown hgr3 (hne _ (by omega));have hbn : Below w.heap.size w w3 := (hb4.alloc hb4.size _).grown hgr3 (by simp; omega) (fun b h => by have := (HOW.out.lt b h).1; omega);have hps := HP4.out.snoc (w' := w3) (p := ⟨f.next, []⟩) (u := .slice none 0 0) (fun x m xs hx => (hx.alloc _).kept hgr3 (own_types (hx.alloc _) HOW.out (by decide))) (World.ownsRow_nil _ _ _ _) (fun b h => by cases h) how3;have hpr2 : f.prep s.size = ⟨pt, f.next, [], f.next + 1, ph.number⟩ := by rw [HPR.out, HPE.out]; rfl
          have HFIN := hid (app_made hpr2 J0 J1 J2 hps hbn HP4.out.len);obtain ⟨j0, j1, j2, jf⟩ := J0;clear p0 p1 p2 pf J1 J2 hps hbn hgr3 hat3 how3 hpr2 K1 K2 hb4 HK0
          go_wp2_with fail
          go_meet;exact HFIN.out
        ·
         as_aux_lemma =>
          have hpr := prep_new HF.out hm;have t5 : ((f.pages.length : Int) == f.most) = false := by simp [hm]
          have H5 := hid hm;have HPR := hid hpr;have HE0 := hid E0;have p0 := E0.a;have p1 := E0.b;have p2 := E0.c;have pf := E0.free;clear hm hpr E0;have hk1 : (f.pages.length + 1) * 32 ≤ 140737488355328 := by omega
          have Hblk : Hid ((W.alloc (.cells #[.int .i64 f.next, .slice none 0 0] 98)).heap[W.heap.size]? = some (.cells #[.int .i64 f.next, .slice none 0 0] 98 (0, 0))) := blk_new W _;have HOW := hid (HP4.out.row.alloc (.cells #[.int .i64 f.next, .slice none 0 0] 98))
          go_wp2_with (at_builtin; go_must (refine list_page _ rfl (.tmp 76) (.tmp 80) rfl (w.heap.size + 3) f.pages.length W.heap.size (.slice va f.pages.length vc) (.slice none 0 0) f.next _ rfl rfl HOW.out Hblk.out rfl hk1 (by simp; omega) ?_))
          intro gp cp w3 how3 hgr3 hat3 hlt3;have hne : ∀ F, F < w.heap.size + 3 → (Value.slice va f.pages.length vc).ownBlock ≠ some F := fun F hF h => by have := (HOW.out.lt F h).1; omega
          have J0 := (HE0.out.alloc (.cells #[.int .i64 f.next, .slice none 0 0] 98)).grown hgr3 (hne _ (by omega));have J1 := (E1.alloc (.cells #[.int .i64 f.next, .slice none 0 0] 98)).grown hgr3 (hne _ (by omega));have J2 := (E2.alloc (.cells #[.int .i64 f.next, .slice none 0 0] 98)).grown hgr3 (hne _ (by omega));have hbn : Below w.heap.size w w3 := (hb3.alloc hb3.size _).grown hgr3 (by simp; omega) (fun b h => by have := (HOW.out.lt b h).1; omega);have hps := HP4.out.snoc (w' := w3) (p := ⟨f.next, []⟩) (u := .slice none 0 0) (fun x m xs hx => (hx.alloc _).kept hgr3 (own_types (hx.alloc _) HOW.out (by decide))) (World.ownsRow_nil _ _ _ _) (fun b h => by cases h) how3;have HFIN := hid (app_made HPR.out J0 J1 J2 hps hbn HP4.out.len);obtain ⟨j0, j1, j2, jf⟩ := J0;clear p0 p1 p2 pf J1 J2 hps hbn hgr3 hat3 how3
          go_wp2_with fail
          go_meet;exact HFIN.out
       ·
        as_aux_lemma =>
         obtain ⟨front, num, by', h0, hlen, hpr⟩ := fits_split hf;have hn : f.pages.length = front.length + 1 := by rw [h0]; simp
         have hp5 : PagesOwn (w.heap.size + 3) W (.slice va (front.length + 1) vc) (front ++ [⟨num, by'⟩]) vs := by rw [← hn, ← h0]; exact HP4.out
         rw [hn] at E0
         have HFIN : Hid (∃ va vc vs u, Value.int .i64 0 = .int .i64 (f.prep s.size).gone ∧ Box3 W w.heap.size (.int .i64 f.most) (.int .i64 (f.prep s.size).next) (.slice va ((f.prep s.size).front.length + 1) vc) ∧
           Box3 W (w.heap.size + 1) (.int .i64 0) (.int .i64 0) (.slice none 0 0) ∧ Box2 W (w.heap.size + 1 + 1) (.int .i64 0) (.int .i64 0) ∧
           PagesOwn (w.heap.size + 3) W (.slice va ((f.prep s.size).front.length + 1) vc) (f.prep s.size).pages (vs ++ [u]) ∧ vs.length = (f.prep s.size).front.length ∧ Below w.heap.size w W) := by
          show ∃ va vc vs u, _;rw [hpr];have hp6 := hp5;obtain ⟨g, ba, bc, vs', hva, hg, hg2, hnc, rfl, hvl, _⟩ := hp6.lastOf;exact ⟨va, vc, vs', _, rfl, E0, E1, E2, hp5, hvl, hb3⟩
         clear hn h0 hpr hp5 hf
         go_wp2_with fail
         go_meet;exact HFIN.out
      case rest =>
       obtain ⟨va, vc, vs', u, rfl, E0, E1, E2, hp, hvl, hb3⟩ := hcut;obtain ⟨p, hpr⟩ : ∃ p, p = f.prep s.size := ⟨_, rfl⟩;rw [← hpr] at E0 hp hvl l7 l8 HB ⊢;clear hpr;obtain ⟨fr, num, by', nx, gone⟩ := p;simp only [Prep.pages] at E0 hp hvl l7 l8 HB ⊢;obtain ⟨g, ba, bc, vs1, rfl, hg, hg2, hnc, hvs, hvl1, hcn, hcb, _, hcm⟩ := hp.lastOf;obtain ⟨rfl, hu⟩ := List.append_inj' hvs rfl;simp only [List.cons.injEq, and_true] at hu;subst hu;have hvm := le_maxLen hcm;have hby := hp.byte fr.length ⟨num, by'⟩ (.slice ba by'.length bc) (by simp) (by rw [← hvl]; simp)
       simp only at hby
       have HP := hid hp
       have HBY := hid hby
       have c2 := E0.c;clear hp hby hcm hvs HP4;have hcp := hcn
       go_wp2_with fail
       have HCN := hid hcn;have HCB := hid hcb;have HE0 := hid E0;clear hcn hcb hcp E0 c2;refine wp_region_L (SameTo wc.heap.size wc) 11 12 (by kernel_rfl) (by kernel_rfl) (SameTo.refl _ _) (fun hHeld => ?_);refine tk 0 ?_ rfl (fun _ _ _ h=>h) (y:=?_) (h:=?_);rotate_left
       ·intro wS hSw; go_simp<;>with_reducible rfl
       walk_nrm;refine tk 1 ?_ rfl (fun _ _ _ h=>h) (y:=?_) (h:=?_);rotate_left
       ·intro wS hSw; go_simp<;>with_reducible rfl
       walk_nrm;refine tk 2 ?_ rfl (fun _ _ _ h=>h) (y:=?_) (h:=?_);rotate_left
       ·intro wS hSw; go_simp<;>with_reducible rfl
       walk_nrm;refine tk 3 ?_ rfl (fun _ _ _ h=>h) (y:=?_) (h:=?_);rotate_left
       ·intro wS hSw; have q := hSw.cell hg2 HCN.out; go_simp<;>with_reducible rfl
       walk_nrm;refine tk 4 ?_ rfl (fun _ _ _ h=>h) (y:=?_) (h:=?_);rotate_left
       ·intro wS hSw; go_simp<;>with_reducible rfl
       walk_nrm;refine tk 5 ?_ rfl (fun _ _ _ h=>h) (y:=?_) (h:=?_);rotate_left
       ·intro wS hSw; go_simp<;>with_reducible rfl
       walk_nrm;refine tk 6 ?_ rfl (fun _ _ _ h=>h) (y:=?_) (h:=?_);rotate_left
       ·intro wS hSw; go_simp<;>with_reducible rfl
       walk_nrm;refine tk 7 ?_ rfl (fun _ _ _ h=>h) (y:=?_) (h:=?_);rotate_left
       ·intro wS hSw; have q := hSw.cell hg2 HCB.out; go_simp<;>with_reducible rfl
       walk_nrm;refine tk 8 ?_ rfl (fun _ _ _ h=>h) (y:=?_) (h:=?_);rotate_left
       ·intro wS hSw; go_simp<;>with_reducible rfl
       walk_nrm;refine tk 9 ?_ rfl (fun _ _ _ h=>h) (y:=?_) (h:=?_);rotate_left
       ·intro wS hSw; go_simp<;>with_reducible rfl
       walk_nrm;refine wpAnyL_step (i := 10) rfl (by kernel_rfl) (fun K hK => ?_);go_simp;refine hK.out _ _ (hHeld.alloc (Nat.le_refl _) _) (fun hHeld2 => ?_);clear hK K;walk_nrm;refine wpAnyL_last rfl (by kernel_rfl) (fun K hK => ?_);go_simp;refine hK.out _ _ ?_;clear hK K;walk_nrm;refine wpAnyL_done (by kernel_rfl) ?_ _;have K1 : Below wc.heap.size wc (wc.alloc (.cells #[.int .i64 num, .int .i64 (by'.length : Nat)] 81)).drew := ((Below.refl _ _).alloc (Nat.le_refl _) _).drew;have F0 := HE0.out.below K1;have F1 := E1.below K1;have F2 := E2.below K1;have hP1 := HP.out.below K1;have hB1 := owns_below HBY.out K1;have HBYL : Hid (∀ F, (Value.slice ba by'.length bc).ownBlock = some F → F < wc.heap.size) := fun F h => (HBY.out.lt F h).2
       have hb4 : Below w.heap.size w (wc.alloc (.cells #[.int .i64 num, .int .i64 (by'.length : Nat)] 81)).drew := hb3.trans (K1.mono hb3.size);have A0 : Box2 (wc.alloc (.cells #[.int .i64 num, .int .i64 (by'.length : Nat)] 81)).drew wc.heap.size (.int .i64 num) (.int .i64 (by'.length : Nat)) := ⟨by go_simp, by go_simp, fun j => by go_simp⟩;have hcb1 := (K1.cell (p := ⟨g, fr.length * 2 + 1, none⟩) hg2).trans HCB.out;have hz5 : wc.heap.size < (wc.alloc (.cells #[.int .i64 num, .int .i64 (by'.length : Nat)] 81)).drew.heap.size := by simp
       have hz4 : w.heap.size + 3 ≤ wc.heap.size := by omega
       clear HE0 E1 E2 HP HBY hb3 HCB HCN hHeld hHeld2
       go_wp2_with fail
       generalize (wc.alloc (.cells #[.int .i64 num, .int .i64 (by'.length : Nat)] 81)).drew = W1 at *
       obtain ⟨n, hn⟩ : ∃ n, n = sumOf (bl s) := ⟨_, rfl⟩;have hn5 : n < 65521 := by rw [hn]; exact sumOf_lt _
       have HN := hid hn;clear hn;refine (fsum_any s n HN _ (by omega)).mono ?_;rintro e w' ⟨rfl, rfl⟩;obtain ⟨i0, hi, hz0, hz1, hz2⟩ := info_parts infoByte;have hnew : ∀ F, F = wc.heap.size → (Value.slice ba by'.length bc).ownBlock ≠ some F := fun F hF h => by have := (HBYL.out F h); omega
       have HP1 := hid hP1;have HO1 := hid hB1;have HF0 := hid F0;clear hP1 hB1 F0
       go_wp2_with (at_builtin; go_must (refine wpList_append_lies _ rfl (.tmp 110) (.tmp 119) 63 rfl (w.heap.size + 3) 5 i0 _ 1 1 Tryz.underlying63 hi hz0 hz1 hz2 rfl (by decide) (.slice ba by'.length bc) by'.length (by'.map byteV) rfl (HO1.out.alloc _) ⟨W1.heap.size, 0, none⟩ 3 3 [.int .u8 (s.size : Nat), .int .u8 ((n : Int) / 256), .int .u8 ((n : Int) % 256)] rfl rfl (news_lit _ _ _ _ _ rfl rfl) (ones rfl) (by decide) (by unfold maxLen; omega) (by omega) (by go_size) _ rfl ?_))
       intro g2 cap2 w3 how3 hgr3 hat3 hlt3;have HO3 := hid how3;have HG3 := hid hgr3;have HA3 := hid hat3;have hz6 : w.heap.size + 3 ≤ w3.heap.size := by have := hgr3.size; simp at this; omega
       clear how3 hgr3 hat3
       go_wp2_with (at_builtin; go_must (refine list_string _ rfl (.tmp 120) (.tmp 121) rfl (w.heap.size + 3) (some ⟨g2, 0, none⟩) (by'.length + 3) cap2 _ rfl HO3.out s rfl (by omega) hz6 ?_))
       intro ua uc w4 how4 hgr4 hat4;have hbA : Below W1.heap.size W1 (W1.alloc (.cells #[.int .u8 (s.size : Nat), .int .u8 ((n : Int) / 256), .int .u8 ((n : Int) % 256)] 5)) := (Below.refl _ _).alloc (Nat.le_refl _) _;obtain ⟨hp5, hg5, ⟨x5, hx5⟩, hf5⟩ := app_last (W1.heap.size + 1) HN.out hs hbA HP1.out hvl1 how4 HG3.out (by simp) HA3.out hgr4 hat4;have hz7 : W1.heap.size ≤ w4.heap.size := Nat.le_trans hbA.size hg5.size;have hrl : ∀ b, (Value.slice ba by'.length bc).ownBlock = some b → w.heap.size + 3 ≤ b := fun b h => (HO1.out.lt b h).1
       have hne : ∀ F, F < w.heap.size + 3 → (Value.slice ba by'.length bc).ownBlock ≠ some F := fun F hF h => by have := hrl F h; omega
       have G0 := ((HF0.out.alloc (.cells #[.int .u8 (s.size : Nat), .int .u8 ((n : Int) / 256), .int .u8 ((n : Int) % 256)] 5)).grown hg5 (hne _ (by omega))).far (b := g) (o := fr.length * 2 + 1) (v := .slice ua (by'.length + 3 + s.size) uc) (by omega);have G1 := ((F1.alloc (.cells #[.int .u8 (s.size : Nat), .int .u8 ((n : Int) / 256), .int .u8 ((n : Int) % 256)] 5)).grown hg5 (hne _ (by omega))).far (b := g) (o := fr.length * 2 + 1) (v := .slice ua (by'.length + 3 + s.size) uc) (by omega);have G2 := ((F2.alloc (.cells #[.int .u8 (s.size : Nat), .int .u8 ((n : Int) / 256), .int .u8 ((n : Int) % 256)] 5)).grown hg5 (hne _ (by omega))).far (b := g) (o := fr.length * 2 + 1) (v := .slice ua (by'.length + 3 + s.size) uc) (by omega);have G3 := ((A0.alloc (.cells #[.int .u8 (s.size : Nat), .int .u8 ((n : Int) / 256), .int .u8 ((n : Int) % 256)] 5)).grown hg5 (hnew _ rfl)).far (b := g) (o := fr.length * 2 + 1) (v := .slice ua (by'.length + 3 + s.size) uc) (by omega);have hb6 : Below w.heap.size w (w4.setCell ⟨g, fr.length * 2 + 1, none⟩ (.slice ua (by'.length + 3 + s.size) uc)) := ((hb4.trans (hbA.mono hb4.size)).grown hg5 (by simp; omega) (fun b h => by have := hrl b h; omega)).setCell (by show w.heap.size ≤ g; omega) _;have HP5 := hid hp5;clear hp5 hg5 hb4 HP1 HO1 HO3 HG3 HA3 HF0 F1 F2 A0 hne hrl K1 hcb1 hbA hi hz0 hz1 hz2 how4 hgr4 hat4 hnew hvl hvl1
       go_wp2_with fail
       generalize w4.setCell ⟨g, fr.length * 2 + 1, none⟩ (.slice ua (by'.length + 3 + s.size) uc) = W5 at *
       clear hx5 hf5;obtain ⟨p0, p1, p2, -⟩ := G0;obtain ⟨q0, q1, q2, f1⟩ := G1;obtain ⟨q3, q4, f2⟩ := G2;obtain ⟨r0, r1, -⟩ := G3;have n1 : ¬ w.heap.size + 1 = wc.heap.size := by omega
       have n2 : ¬ w.heap.size + 1 + 1 = wc.heap.size := by omega
       have n3 : ¬ w.heap.size + 1 + 1 = w.heap.size := by omega
       go_region_held3 (fun w' : World => w'.cell? ⟨w.heap.size, 0, none⟩ = some (.int .i64 f.most) ∧ w'.cell? ⟨w.heap.size, 1, none⟩ = some (.int .i64 nx) ∧ w'.cell? ⟨w.heap.size, 2, none⟩ = some (.slice (some ⟨g, 0, none⟩) (fr.length + 1) vc) ∧ w'.cell? ⟨wc.heap.size, 0, none⟩ = some (.int .i64 num) ∧ w'.cell? ⟨wc.heap.size, 1, none⟩ = some (.int .i64 (by'.length : Nat))) (go_keep) (fail)
       have I1 := ((((Box3.mk q0 q1 q2 f1).seta (v := .int .i64 f.most)).setb (v := .int .i64 nx)).setc (v := .slice (some ⟨g, 0, none⟩) (fr.length + 1) vc));have I2 := (((((Box2.mk q3 q4 f2).far (b := w.heap.size + 1) (o := 0) (v := .int .i64 f.most) (by omega)).far (b := w.heap.size + 1) (o := 1) (v := .int .i64 nx) (by omega)).far (b := w.heap.size + 1) (o := 2) (v := .slice (some ⟨g, 0, none⟩) (fr.length + 1) vc) (by omega)).seta (v := .int .i64 num)).setb (v := .int .i64 (by'.length : Nat));have I3 := (I1.far (b := w.heap.size + 1 + 1) (o := 0) (v := .int .i64 num) (by omega)).far (b := w.heap.size + 1 + 1) (o := 1) (v := .int .i64 (by'.length : Nat)) (by omega);have hp7 := ((((HP5.out.setCell_below (a := ⟨w.heap.size + 1, 0, none⟩) (by show w.heap.size + 1 < w.heap.size + 3; omega) (.int .i64 f.most)).setCell_below (a := ⟨w.heap.size + 1, 1, none⟩) (by show w.heap.size + 1 < w.heap.size + 3; omega) (.int .i64 nx)).setCell_below (a := ⟨w.heap.size + 1, 2, none⟩) (by show w.heap.size + 1 < w.heap.size + 3; omega) (.slice (some ⟨g, 0, none⟩) (fr.length + 1) vc)).setCell_below (a := ⟨w.heap.size + 1 + 1, 0, none⟩) (by show w.heap.size + 1 + 1 < w.heap.size + 3; omega) (.int .i64 num)).setCell_below (a := ⟨w.heap.size + 1 + 1, 1, none⟩) (by show w.heap.size + 1 + 1 < w.heap.size + 3; omega) (.int .i64 (by'.length : Nat));have hb7 := ((((hb6.setCell (p := ⟨w.heap.size + 1, 0, none⟩) (by show w.heap.size ≤ w.heap.size + 1; omega) (.int .i64 f.most)).setCell (p := ⟨w.heap.size + 1, 1, none⟩) (by show w.heap.size ≤ w.heap.size + 1; omega) (.int .i64 nx)).setCell (p := ⟨w.heap.size + 1, 2, none⟩) (by show w.heap.size ≤ w.heap.size + 1; omega) (.slice (some ⟨g, 0, none⟩) (fr.length + 1) vc)).setCell (p := ⟨w.heap.size + 1 + 1, 0, none⟩) (by show w.heap.size ≤ w.heap.size + 1 + 1; omega) (.int .i64 num)).setCell (p := ⟨w.heap.size + 1 + 1, 1, none⟩) (by show w.heap.size ≤ w.heap.size + 1 + 1; omega) (.int .i64 (by'.length : Nat));have hp8 := hp7.world (w0' := ((((W5.setCell ⟨w.heap.size + 1, 0, none⟩ (.int .i64 f.most)).setCell ⟨w.heap.size + 1, 1, none⟩ (.int .i64 nx)).setCell ⟨w.heap.size + 1, 2, none⟩ (.slice (some ⟨g, 0, none⟩) (fr.length + 1) vc)).setCell ⟨w.heap.size + 1 + 1, 0, none⟩ (.int .i64 num)).setCell ⟨w.heap.size + 1 + 1, 1, none⟩ (.int .i64 (by'.length : Nat)));clear hp7 HP5 p0 p1 p2 q0 q1 q2 q3 q4 f1 f2 r0 r1 hb6 I1
       generalize ((((W5.setCell ⟨w.heap.size + 1, 0, none⟩ (.int .i64 f.most)).setCell ⟨w.heap.size + 1, 1, none⟩ (.int .i64 nx)).setCell ⟨w.heap.size + 1, 2, none⟩ (.slice (some ⟨g, 0, none⟩) (fr.length + 1) vc)).setCell ⟨w.heap.size + 1 + 1, 0, none⟩ (.int .i64 num)).setCell ⟨w.heap.size + 1 + 1, 1, none⟩ (.int .i64 (by'.length : Nat)) = W6 at *
       have I4 : Box3 W6.drew (w.heap.size + 1) (.int .i64 f.most) (.int .i64 nx) (.slice (some ⟨g, 0, none⟩) (fr.length + 1) vc) := I3.same rfl;have I5 : Box2 W6.drew (w.heap.size + 1 + 1) (.int .i64 num) (.int .i64 (by'.length : Nat)) := I2.same rfl;have hp9 : PagesOwn w.heap.size W6.drew (.slice (some ⟨g, 0, none⟩) (fr.length + 1) vc) (fr ++ [⟨num, by' ++ recordOf (bl s)⟩]) (vs' ++ [.slice ua (by'.length + 3 + s.size) uc]) := (hp8.base (by omega)).kept (fun _ _ _ => rfl);have hb9 : Below w.heap.size w W6.drew := hb7.drew;clear hp8 hb7 I3 I2
       generalize W6.drew = W7 at *
       iterate 3 go_step
       refine bodyPost_ret (v := .tuple #[.agg #[.int .i64 f.most, .int .i64 nx, .slice (some ⟨g, 0, none⟩) (fr.length + 1) vc], .agg #[.int .i64 num, .int .i64 (by'.length : Nat)], .int .i64 gone, .int .i64 0]) (app_results _ _ (w.heap.size + 1) (w.heap.size + 1 + 1) _ _ _ _ _ _ _ rfl rfl rfl rfl I4.a I4.b I4.c I5.a I5.b) rfl ⟨.slice (some ⟨g, 0, none⟩) (fr.length + 1) vc, vs' ++ [.slice ua (by'.length + 3 + s.size) uc], ?_, ?_, hb9⟩
       ·rw [HB.out]; rfl
       ·rw [HB.out]; exact hp9
end Go.Proofs.YtbeegfkfpkfccaaGreatDoor.D
