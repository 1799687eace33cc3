/-
 Contract: keep.played: a store that has answered requests over eight keys, with ticks between.
-/
import Derived.Test.YtbeegfkfpkfccaaGreatDoorYCKGet
import Derived.Test.YtbeegfkfpkfccaaGreatDoorYCKReq
namespace Go.Proofs.YtbeegfkfpkfccaaGreatDoor.D
open Go.RowKit
/-- a raw thing's numbers -/
def rawR (cs : List Value) (r : Int × Int × Int × Int) : Prop := cs = [.int .i64 r.1, .int .i64 r.2.1, .int .i64 r.2.2.1, .int .i64 r.2.2.2] ∧ I64 r.1 ∧ I64 r.2.1 ∧ I64 r.2.2.1 ∧ I64 r.2.2.2
def PlayEnd (m : Nat) (p f : Int) (w : World) (E : Ending) (w' : World) : Prop :=
 ∃ (S : Store) (va : Option Addr) (vc : Nat) (fa : Option Addr) (fc : Nat) (oa : Option Addr) (ol oc : Nat), E = .returned (.tuple #[.agg (storeV S va vc fa fc), .slice oa ol oc, .bool true]) ∧ StOwn w.heap.size w' S va vc fa fc ∧ Played m m p f S ∧ Below w.heap.size w w'
theorem req8_small {q : Req} (h : Req8 q) : q.keys.length ≤ 1000 ∧ q.key.size ≤ 1000 := by
 have hr := rok h.fault
 obtain ⟨hk, hf, _, _⟩ := fault_zero h.fault
 have h1 : q.keys.length ≤ 1000 := by
  by_cases e : q.kind = 1
  ·have := (hr.keys e).1; omega
  ·rw [hr.nokeys e]; simp
 refine ⟨h1, ?_⟩
 by_cases e : 2 ≤ q.kind ∧ q.kind ≤ 11
 ·have := keyOK_20 (hr.key e.1 e.2); omega
 ·unfold Req.form at hf
  simp only [Bool.and_eq_true] at hf
  have h2 := hf.2.1
  unfold Req.f1 at h2
  rw [if_neg e, decide_eq_true_eq] at h2
  omega
theorem share2 {T G : Prop} (h : (True → T) → G) (k : T) : G := h (fun _ => k)
theorem tick_is {s : Store} {m c : Nat} {p f n : Int} (h : Played m c p f s) (hn : 0 ≤ n ∧ n ≤ 8) (hc : c ≤ 100000) : s.tick n = ({ s with clock := s.clock + n }, 0) :=
 tick_good ((ok_iff s).2 h.ok) (by have := h.clock; omega)
theorem infoReply : (Tryz.prog.info? 35).map (fun i => (i.zero, i.size, i.bytes)) = some (some (.agg #[.int .i64 0, .int .i64 0, .slice none 0 0]), 3, 40) := by kernel_rfl
/-- a reply more behind replies of the call's own -/
theorem list_reply {ops : Array Oper} {rest : List Oper} {o : Oper} {a : Act} {Q : Exit → Act → World → Prop} (W : World) (hgd : o.guard = none) (s x : Operand)
  (ho : o.op = .call { callee := .builtin .append, args := #[s, x], argTypes := #[43, 43] }) (base k B : Nat) (v u1 u2 u3 : Value) (xs : List Value)
  (hs : a.eval s = v) (hx : a.eval x = .slice (some ⟨B, 0, none⟩) 1 1) (hown : W.ownsRow base 35 3 v k xs) (hb : W.heap[B]? = some (.cells #[u1, u2, u3] 35 (0, 0))) (hu : [u1, u2, u3].all (·.oneCell') = true)
  (hk : (k + 1) * 40 ≤ 140737488355328) (hbase : base ≤ W.heap.size)
  (h : ∀ g cap w', w'.ownsRow base 35 3 (.slice (some ⟨g, 0, none⟩) (k + 1) cap) (k + 1) (xs ++ [u1, u2, u3]) → W.grownBy w' v.ownBlock → (v.ownBlock = some g ∨ g = W.heap.size) → g < w'.heap.size → wpList Tryz.prog ops Q rest (a.put o.dst (.slice (some ⟨g, 0, none⟩) (k + 1) cap)) w') :
  wpList Tryz.prog ops Q (o :: rest) a W := by
 obtain ⟨j0, hj, hw0, hw1, hw2⟩ := info_parts infoReply
 exact wpList_append_lies W hgd s x _ ho base 35 j0 _ 3 40 Tryz.underlying43 hj hw0 hw1 hw2 rfl (by decide) v k xs hs hown ⟨B, 0, none⟩ 1 1 [u1, u2, u3] hx rfl (World.news_of_block hb) (ones hu) (by decide) (by unfold maxLen; omega) hk hbase _ rfl h
theorem StOwn.keptT {base : Nat} {w w' : World} {s : Store} {va fa : Option Addr} {vc fc : Nat} {P : TypeId → Prop} (h : StOwn base w s va vc fa fc) (hk : KeptT P w w') (h1 : P 83) (h2 : P 98) (h3 : P 5) : StOwn base w' s va vc fa fc := by
 obtain ⟨vs, hv⟩ := h.pages
 exact ⟨owns_keptT h.row hk h1, ⟨vs, hv.keptT hk h2 h3⟩, h.ib, h.pb, h.len, h.plen⟩
theorem results_store {fn : Func} {p q r : Tmp} {ty : TypeId} (h : fn.results = #[.cell p ty, .tmp q, .tmp r]) (tmps : Array Value) (w : World) (g : Nat) (cs : Array Value) (u v : Value)
  (hp : tmps.getD p undef = .pointer (some ⟨g, 0, none⟩)) (hq : tmps.getD q undef = u) (hv : tmps.getD r undef = v) (hr : (loadVar ty ⟨g, 0, none⟩).run Tryz.prog w = .ok (.agg cs) w) :
  (results fn tmps).run Tryz.prog w = .ok (.tuple #[.agg cs, u, v]) w := by
 have hp' : tmps[p]?.getD undef = .pointer (some ⟨g, 0, none⟩) := by simpa using hp
 have hq' : tmps[q]?.getD undef = u := by simpa using hq
 have hv' : tmps[r]?.getD undef = v := by simpa using hv
 simp [results, h, hp', hq', hv', asAddr, hr]
set_option maxRecDepth 100000 in
set_option maxHeartbeats 8000000 in
theorem played_is (l : List (Int × Int × Int × Int)) (a : Option Addr) (c : Nat) (p f : Int) (most : Nat) (hp : 0 ≤ p ∧ p ≤ 40) (hf : 0 ≤ f ∧ f ≤ 20) (hmost : most ≤ 100) (w : World) (he : Env w) (h : RowsAt w a 4 rawR l) :
  Calls Tryz.prog 15 #[.slice a l.length c, .int .i64 p, .int .i64 f, .int .i64 most] w (PlayEnd most p f w) := by
 have HE := hid he
 have HR := hid h
 clear he h
 obtain ⟨n, hn⟩ : ∃ n, n = l.length := ⟨_, rfl⟩
 have HN := hid hn
 rw [← hn]
 clear hn
 have hnw := store_New p f
 rw [new_is hp hf] at hnw
 have HNW := hid hnw
 have HP0 := hid (Played.zero hp hf)
 clear hnw
 go_enter Tryz.func15, Tryz.ntmps15
 go_wp2_with fail
 refine (HNW.out _).mono ?_
 rintro e w1 ⟨rfl, hb1⟩
 obtain ⟨W0, hW0, hb0, r80, -⟩ : ∃ W0, W0 = w.alloc (.cells #[.int .i64 0, .int .i64 0, .int .i64 0, .int .i64 0, .int .i64 0, .int .i64 0, .int .i64 0, .int .i64 0, .slice none 0 0, .int .i64 0, .int .i64 0, .slice none 0 0] 28) ∧ Below w.heap.size w W0 ∧ W0.heap[w.heap.size]? = some (.cells #[.int .i64 0, .int .i64 0, .int .i64 0, .int .i64 0, .int .i64 0, .int .i64 0, .int .i64 0, .int .i64 0, .slice none 0 0, .int .i64 0, .int .i64 0, .slice none 0 0] 28 (0, 0)) ∧ True := ⟨_, rfl, below_new rfl, blk_new w _, trivial⟩
 rw [← hW0] at hb1
 have r81 := (hb1.block w.heap.size (blt r80)).trans r80
 have HB1 := hid (hb0.trans (hb1.mono hb0.size))
 have h8l : w.heap.size < w1.heap.size := (blt r81)
 clear hW0 hb0 hb1 r80 HNW
 go_upto_region 2 with (fail)
 obtain ⟨W2, hW2⟩ : ∃ W2, W2 = w1.alloc (.cells #[.int .i64 0, .int .i64 0, .int .i64 0, .int .i64 p, .int .i64 0, .int .i64 0, .int .i64 0, .int .i64 0, .slice none 0 0, .int .i64 f, .int .i64 1, .slice none 0 0] 28) := ⟨_, rfl⟩
 obtain ⟨B10, hB10⟩ : ∃ B, B = w1.heap.size := ⟨_, rfl⟩
 obtain ⟨B8, hB8⟩ : ∃ B, B = w.heap.size := ⟨_, rfl⟩
 obtain ⟨S0, hS0⟩ : ∃ S : Store, S = ⟨0, 0, 0, p, 0, 0, 0, 0, [], ⟨f, 1, []⟩⟩ := ⟨_, rfl⟩
 have hb2 := below_new hW2
 have R10 : Hid (W2.heap[B10]? = some (.cells (storeV S0 none 0 none 0) 28 (0, 0))) := by rw [hW2, hB10, hS0]; exact blk_new w1 _
 have R8 : Hid (W2.heap[B8]? = some (.cells #[.int .i64 0, .int .i64 0, .int .i64 0, .int .i64 0, .int .i64 0, .int .i64 0, .int .i64 0, .int .i64 0, .slice none 0 0, .int .i64 0, .int .i64 0, .slice none 0 0] 28 (0, 0))) := by rw [hB8]; exact (hb2.block _ h8l).trans r81
 have HBx := hid (HB1.out.trans (hb2.mono HB1.out.size))
 have hzr : B10 < W2.heap.size := by rw [hW2, hB10]; simp
 have hbs : B10 < W2.heap.size := hzr
 have HSO : Hid (StOwn W2.heap.size W2 S0 none 0 none 0) := by rw [hS0]; exact StOwn.bare rfl rfl
 rw [← hS0] at HP0
 have n8 : B8 ≠ B10 := by omega
 have hB8w : w.heap.size ≤ B8 := by omega
 have hB10w : w.heap.size ≤ B10 := by omega
 rw [← hW2, ← hB10, ← hB8]
 clear hW2 hb2 r81 HB1 h8l hS0 hB8 hB10
 go_wp2_with fail
 go_loopw [13, 14] (fun vo vi wr => ∃ (j : Nat) (Sk : Store) (va fa : Option Addr) (vc fc bs : Nat) (oa : Option Addr) (on oc : Nat) (xs : List Value), j ≤ n ∧ j ≤ most ∧ vo = .slice oa on oc ∧ vi = .int .i64 j ∧ on ≤ j ∧ B10 < bs ∧ B10 < wr.heap.size ∧ Hid (Played j j p f Sk) ∧ Hid (Below w.heap.size w wr) ∧ Hid (wr.heap[B8]? = some (.cells #[.int .i64 0, .int .i64 0, .int .i64 0, .int .i64 0, .int .i64 0, .int .i64 0, .int .i64 0, .int .i64 0, .slice none 0 0, .int .i64 0, .int .i64 0, .slice none 0 0] 28 (0, 0))) ∧ Hid (wr.heap[B10]? = some (.cells (storeV Sk va vc fa fc) 28 (0, 0))) ∧ Hid (StOwn bs wr Sk va vc fa fc) ∧ Hid (wr.ownsRow (B10 + 1) 35 3 (.slice oa on oc) on xs)) (fun _ i _ => n - (intOf i).toNat)
 case atStart => exact ⟨0, S0, none, none, 0, 0, W2.heap.size, none, 0, 0, [], Nat.zero_le _, Nat.zero_le _, rfl, rfl, Nat.le_refl _, hbs, hzr, HP0, HBx, R8, R10, HSO, World.ownsRow_nil _ _ _ _⟩
 case round =>
  clear HBx R8 R10 HSO HP0 hzr hbs
  obtain ⟨j, Sk, va, fa, vc, fc, bs, oa, on, oc, xs, hj, hjm0, rfl, rfl, hon, hbs, hzr, HPL, HBW, R8, R10, HSO, HOW⟩ := hrel
  by_cases hlt : j < n ∧ j < most
  rotate_left
  ·
   have HF : Hid (PlayEnd most p f w (.returned (.tuple #[.agg (storeV Sk va vc fa fc), .slice oa on oc, .bool true])) (wr.setRow B8 (storeV Sk va vc fa fc))) :=
    ⟨Sk, va, vc, fa, fc, oa, on, oc, rfl, (HSO.out.setT R8.out (by decide) (by decide) (by decide)).mono (by omega), HPL.out.le hjm0 hjm0, HBW.out.trans (Below.setRow _ B8 _ hB8w)⟩
   by_cases hl1 : j < n
   ·have hl2 : ¬ (j : Int) < (most : Int) := by omega
    have hl3 : (j : Int) < (n : Int) := by omega
    go_wp2_with (first
     | refine wpList_load_row rfl 28 _ rfl B10 rfl _ _ _ _ R10.out Tryz.underlying28 rfl (by kernel_rfl) ?_
     | refine wpList_store_row rfl 28 _ _ rfl B8 _ rfl rfl _ _ R8.out storeSize rfl (store_one _ _ _ _ _) ?_)
    exact bodyPost_ret (v := .tuple #[.agg (storeV Sk va vc fa fc), .slice oa on oc, .bool true]) (results_store rfl _ _ B8 _ _ _ rfl rfl rfl (run_loadVar_row _ _ _ _ _ _ _ (setRow_heap wr _ _ _ _ _ R8.out) Tryz.underlying28 rfl storeSize)) rfl HF.out
   ·have hl3 : ¬ (j : Int) < (n : Int) := by omega
    go_wp2_with (first
     | refine wpList_load_row rfl 28 _ rfl B10 rfl _ _ _ _ R10.out Tryz.underlying28 rfl (by kernel_rfl) ?_
     | refine wpList_store_row rfl 28 _ _ rfl B8 _ rfl rfl _ _ R8.out storeSize rfl (store_one _ _ _ _ _) ?_)
    exact bodyPost_ret (v := .tuple #[.agg (storeV Sk va vc fa fc), .slice oa on oc, .bool true]) (results_store rfl _ _ B8 _ _ _ rfl rfl rfl (run_loadVar_row _ _ _ _ _ _ _ (setRow_heap wr _ _ _ _ _ R8.out) Tryz.underlying28 rfl storeSize)) rfl HF.out
  ·
   obtain ⟨hl1, hl2⟩ := hlt
   have hl3 : (j : Int) < (n : Int) := by omega
   have hl4 : (j : Int) < (most : Int) := by omega
   have hl5 : j < l.length := by rw [← HN.out]; exact hl1
   obtain ⟨b, o, rfl, hc⟩ := HR.out.pos (by omega)
   obtain ⟨cs, _, hcs, h3⟩ := hc j hl5
   obtain ⟨⟨q0, q1, q2, q3⟩, hq⟩ : ∃ q, q = l[j] := ⟨_, rfl⟩
   rw [← hq] at hcs
   obtain ⟨hcs, hq0, hq1, hq2, hq3⟩ := hcs
   subst hcs
   have y0 := h3 0 _ rfl
   have y1 := h3 1 _ rfl
   have y2 := h3 2 _ rfl
   have y3 := h3 3 _ rfl
   rw [Nat.add_zero] at y0
   simp only at hq0 hq1 hq2 hq3 y0 y1 y2 y3
   have Y0 := hid y0
   have Y1 := hid y1
   have Y2 := hid y2
   have Y3 := hid y3
   clear hc h3 hq y0 y1 y2 y3
   have x0 := Below.keeps HBW.out _ _ Y0.out
   obtain ⟨d7, hd7⟩ : ∃ d, q0.tdiv 7 = d := ⟨_, rfl⟩
   have c7 : -9223372036854775808 ≤ d7 ∧ d7 ≤ 9223372036854775807 := by rw [← hd7]; exact tdiv_in q0 7 (by decide) hq0.1 hq0.2
   have w7 : IntKind.i64.wrap d7 = d7 := IntWalk.i64_in _ ⟨by omega, by omega⟩
   obtain ⟨t6, ht6⟩ : ∃ t, pick d7 6 = t := ⟨_, rfl⟩
   have HT6 := hid ht6
   clear ht6
   go_wp2_with fail
   refine (picked_at d7 6 t6 HT6 c7.1 c7.2 (by decide) (by decide) _).mono ?_
   rintro e wd ⟨rfl, rfl⟩
   clear x0 hd7 w7 c7
   go_upto_if 45 with (fail)
   go_cut [14] (fun v14 wx => ∃ (St : Store) (va' fa' : Option Addr) (vc' fc' bs' : Nat), v14 = .int .i64 j ∧ B10 < bs' ∧ B10 < wx.heap.size ∧ Hid (Played j (j + 1) p f St) ∧ Hid (Below w.heap.size w wx) ∧ Hid (wx.heap[B8]? = some (.cells #[.int .i64 0, .int .i64 0, .int .i64 0, .int .i64 0, .int .i64 0, .int .i64 0, .int .i64 0, .int .i64 0, .slice none 0 0, .int .i64 0, .int .i64 0, .slice none 0 0] 28 (0, 0))) ∧ Hid (wx.heap[B10]? = some (.cells (storeV St va' vc' fa' fc') 28 (0, 0))) ∧ Hid (StOwn bs' wx St va' vc' fa' fc') ∧ Hid (wx.ownsRow (B10 + 1) 35 3 (.slice oa on oc) on xs))
   case first =>
    by_cases h6 : t6 = 0
    rotate_left
    ·have f6 : (t6 == 0) = false := by simp [h6]
     go_wp2_with fail
     go_meet
     exact ⟨Sk, va, fa, vc, fc, bs, rfl, hbs, hzr, HPL.out.le (Nat.le_refl _) (by omega), HBW, R8, R10, HSO, HOW⟩
    ·subst h6
     obtain ⟨n9, hn9⟩ : ∃ t, pick q1 9 = t := ⟨_, rfl⟩
     have hn92 := pick_lt q1 9 (by decide)
     rw [hn9] at hn92
     have HN9 := hid hn9
     obtain ⟨St, hSt⟩ : ∃ S : Store, S = { Sk with clock := Sk.clock + n9 } := ⟨_, rfl⟩
     have HT : Hid (Sk.tick n9 = (St, 0)) := by rw [hSt]; exact tick_is HPL.out ⟨hn92.1, by omega⟩ (by omega)
     have HPT : Hid (Played j (j + 1) p f St) := by rw [hSt]; exact HPL.out.tick ⟨hn92.1, by omega⟩ (by omega)
     clear hn9 hSt
     go_upto_region 7 with (fail)
     go_cut [15, 16] (fun v15 v16 wx => ∃ B15 va' vc' fa' fc' bn, v15 = .pointer (some ⟨B15, 0, none⟩) ∧ v16 = .int .i64 0 ∧ B10 < bn ∧ B15 ≠ B10 ∧ B10 < wx.heap.size ∧ Hid (Below wr.heap.size wr wx) ∧ Hid (wx.heap[B10]? = some (.cells (storeV Sk va vc fa fc) 28 (0, 0))) ∧ Hid (StOwn bn wx St va' vc' fa' fc') ∧ Hid (wx.heap[B15]? = some (.cells (storeV St va' vc' fa' fc') 28 (0, 0))))
     case first =>
      have x1 := Below.keeps HBW.out _ _ Y1.out
      have HES := hid (HE.out.on HBW.out)
      have HEx := HES
      have HBx := hid (Below.refl wr.heap.size wr)
      clear R8 HOW HBW
      obtain ⟨WS, hWS⟩ : ∃ W : World, W = wr := ⟨_, rfl⟩
      have HWS := hid hWS
      rw [← hWS] at x1 HES HBx HEx R10 HSO hzr ⊢
      clear hWS
      obtain ⟨L, hL⟩ : ∃ L, L = WS.heap.size := ⟨_, rfl⟩
      have hBL : B10 < L := by omega
      have hbL : WS.heap.size ≤ L := by have := HBx.out.size; omega
      refine wp_region_L (fun w' : World => w'.heap[B10]? = some (.cells (storeV (Sk) va vc fa fc) 28 (0, 0)) ∧ Below WS.heap.size WS w') 13 14 (by kernel_rfl) (by kernel_rfl) ⟨R10.out, (Below.refl _ _).drew⟩ (fun hHeld => ?_)
      refine wpAnyL_take (i := 1) (v := ?_) rfl (by kernel_rfl) (fun _ _ _ h => h) (Or.inl ⟨by rfl, ?_⟩) (by assumption) ?_
      rotate_left
      ·intro wS hSw; go_simp <;> with_reducible rfl
      walk_nrm
      refine wpAnyL_take (i := 2) (v := ?_) rfl (by kernel_rfl) (fun _ _ _ h => h) (Or.inl ⟨by rfl, ?_⟩) (by assumption) ?_
      rotate_left
      ·intro wS hSw; go_simp <;> with_reducible rfl
      walk_nrm
      refine wpAnyL_take (i := 3) (v := ?_) rfl (by kernel_rfl) (fun _ _ _ h => h) (Or.inl ⟨by rfl, ?_⟩) (by assumption) ?_
      rotate_left
      ·intro wS hSw; go_simp <;> with_reducible rfl
      walk_nrm
      refine wpAnyL_take (i := 4) (v := ?_) rfl (by kernel_rfl) (fun _ _ _ h => h) (Or.inl ⟨by rfl, ?_⟩) (by assumption) ?_
      rotate_left
      ·intro wS hSw; go_simp <;> with_reducible rfl
      walk_nrm
      refine wpAnyL_take (i := 5) (v := ?_) rfl (by kernel_rfl) (fun _ _ _ h => h) (Or.inl ⟨by rfl, ?_⟩) (by assumption) ?_
      rotate_left
      ·intro wS hSw; have k1 := Below.keeps hSw.2 _ _ x1; go_simp <;> with_reducible rfl
      walk_nrm
      refine wpAnyL_call (i := 6) (v := (.int .i64 n9)) rfl (by kernel_rfl) (fun _ _ _ h => h) ⟨by rfl, 16, #[.int .i64 q1, .int .i64 9], fun wS hSw => ⟨?_, (picked_at q1 9 _ HN9 hq1.1 hq1.2 (by decide) (by decide) wS).mono (fun _ _ h => ⟨h.1, h.2.symm⟩)⟩⟩ (by assumption) ?_
      ·go_simp
      walk_nrm
      refine wpAnyL_take (i := 0) (v := _) rfl (by kernel_rfl) (fun _ _ _ h => h) (Or.inl ⟨by rfl, fun wS hSw => exec_load_row 28 _ rfl (B10) rfl _ _ _ _ (hSw.1) Tryz.underlying28 rfl (by kernel_rfl)⟩) (by assumption) ?_
      walk_nrm
      obtain ⟨wx, hwx⟩ : ∃ wx, wx = WS.drew := ⟨_, rfl⟩
      rw [← hwx]
      replace R10 : Hid (wx.heap[B10]? = some (.cells (storeV (Sk) va vc fa fc) 28 (0, 0))) := by rw [hwx]; exact R10
      replace HBx : Hid (Below WS.heap.size WS wx) := by rw [hwx]; exact HBx.out.drew
      replace HSO : Hid (StOwn bs wx (Sk) va vc fa fc) := by rw [hwx]; exact HSO.out.below (Below.refl _ _).drew
      replace HEx : Hid (Env wx) := by rw [hwx]; exact hid (HEx.out.on (Below.refl _ _).drew)
      have hzx : L ≤ wx.heap.size := by rw [hwx, hL]; exact Nat.le_refl _
      have HX15 : Hid (Bx L none (.cells #[.int .i64 0, .int .i64 0, .int .i64 0, .int .i64 0, .int .i64 0, .int .i64 0, .int .i64 0, .int .i64 0, .slice none 0 0, .int .i64 0, .int .i64 0, .slice none 0 0] 28 (0, 0)) wx) := Bx.none
      clear hwx hL hzr
      apply share2
      ·
       intro key
       have hHeld := hHeld
       have hzx := hzx
       have HSO := HSO
       refine wpAnyL_two 7 11 (by kernel_rfl) ?_ ?_
       ·refine ComesUp.mk rfl (fun K hK => ?_)
        go_simp
        refine (store_Tick Sk n9 va fa vc fc wx HEx.out.chunks HSO.out.at.items HSO.out.at.pages (by have := HSO.out.len; omega) (by have := HSO.out.plen; omega)).mono ?_
        rw [HT.out]
        rintro e wn ⟨va', vc', fa', fc', rfl, hso, hbn⟩
        obtain ⟨bn, hbs'⟩ : ∃ b, b = wx.heap.size := ⟨_, rfl⟩
        rw [← hbs'] at hso
        have HSN := hid hso
        have hbn1 : B10 < bn := by omega
        clear hso hbs'
        replace HX15 := hid (HX15.out.below hbn)
        replace R10 := hid ((hbn.block B10 (by omega)).trans R10.out)
        replace HEx := hid (HEx.out.on hbn)
        replace HBx := hid (HBx.out.trans (hbn.mono HBx.out.size))
        have hzn : L ≤ wn.heap.size := by have := hbn.size; omega
        clear HSO
        refine hK.out _ _ ⟨R10.out, HBx.out⟩ ?_
        clear hK K hHeld hbn hzx 
        intro hHeld
        walk_nrm
        refine wpAnyL_take (i := 8) (v := ?_) rfl (by kernel_rfl) (fun _ _ _ h => h) (Or.inl ⟨by rfl, ?_⟩) (by assumption) ?_
        rotate_left
        ·intro wS hSw; go_simp <;> with_reducible rfl
        walk_nrm
        refine wpAnyL_take (i := 9) (v := ?_) rfl (by kernel_rfl) (fun _ _ _ h => h) (Or.inl ⟨by rfl, ?_⟩) (by assumption) ?_
        rotate_left
        ·intro wS hSw; go_simp <;> with_reducible rfl
        walk_nrm
        refine wpAnyL_take (i := 10) (v := ?_) rfl (by kernel_rfl) (fun _ _ _ h => h) (Or.inl ⟨by rfl, ?_⟩) (by assumption) ?_
        rotate_left
        ·intro wS hSw; go_simp <;> with_reducible rfl
        walk_nrm
        try clear wx
        obtain ⟨wx, rfl⟩ : ∃ wx : World, wx = wn := ⟨_, rfl⟩
        have hzx := hzn
        clear hzn
        refine wpAnyL_one 11 (by kernel_rfl) ?_
        ·refine ComesUp.mk rfl (fun K hK => ?_)
         go_simp
         obtain ⟨wn, hwn⟩ : ∃ wn, wn = wx.alloc (.cells #[.int .i64 0, .int .i64 0, .int .i64 0, .int .i64 0, .int .i64 0, .int .i64 0, .int .i64 0, .int .i64 0, .slice none 0 0, .int .i64 0, .int .i64 0, .slice none 0 0] 28) := ⟨_, rfl⟩
         obtain ⟨b15, hb15⟩ : ∃ b, b = wx.heap.size := ⟨_, rfl⟩
         rw [← hwn, ← hb15]
         have hbn := below_new hwn
         replace HX15 : Hid (Bx L (some b15) (.cells #[.int .i64 0, .int .i64 0, .int .i64 0, .int .i64 0, .int .i64 0, .int .i64 0, .int .i64 0, .int .i64 0, .slice none 0 0, .int .i64 0, .int .i64 0, .slice none 0 0] 28 (0, 0)) wn) := by rw [hb15]; exact Bx.new hwn hzx
         replace R10 := hid ((hbn.block B10 (by omega)).trans R10.out)
         replace HEx := hid (HEx.out.on hbn)
         replace HBx := hid (HBx.out.trans (hbn.mono HBx.out.size))
         try replace HSO := hid (HSO.out.below hbn)
         try replace HSN := hid (HSN.out.below hbn)
         have hzn : L ≤ wn.heap.size := by have := hbn.size; omega
         refine hK.out _ _ ⟨R10.out, HBx.out⟩ ?_
         clear hK K hHeld hbn hzx hwn hb15
         intro hHeld
         walk_nrm
         try clear wx
         obtain ⟨wx, rfl⟩ : ∃ wx : World, wx = wn := ⟨_, rfl⟩
         have hzx := hzn
         clear hzn
         revert hHeld
         revert hzx
         revert HSN
         revert hbn1
         revert R10
         revert HBx
         revert HEx
         revert HX15
         revert fc'
         revert vc'
         revert fa'
         revert va'
         revert bn
         revert b15
         revert wx
         exact key trivial
       ·refine ComesUp.mk rfl (fun K hK => ?_)
        go_simp
        obtain ⟨wn, hwn⟩ : ∃ wn, wn = wx.alloc (.cells #[.int .i64 0, .int .i64 0, .int .i64 0, .int .i64 0, .int .i64 0, .int .i64 0, .int .i64 0, .int .i64 0, .slice none 0 0, .int .i64 0, .int .i64 0, .slice none 0 0] 28) := ⟨_, rfl⟩
        obtain ⟨b15, hb15⟩ : ∃ b, b = wx.heap.size := ⟨_, rfl⟩
        rw [← hwn, ← hb15]
        have hbn := below_new hwn
        replace HX15 : Hid (Bx L (some b15) (.cells #[.int .i64 0, .int .i64 0, .int .i64 0, .int .i64 0, .int .i64 0, .int .i64 0, .int .i64 0, .int .i64 0, .slice none 0 0, .int .i64 0, .int .i64 0, .slice none 0 0] 28 (0, 0)) wn) := by rw [hb15]; exact Bx.new hwn hzx
        replace R10 := hid ((hbn.block B10 (by omega)).trans R10.out)
        replace HEx := hid (HEx.out.on hbn)
        replace HBx := hid (HBx.out.trans (hbn.mono HBx.out.size))
        try replace HSO := hid (HSO.out.below hbn)
        try replace HSN := hid (HSN.out.below hbn)
        have hzn : L ≤ wn.heap.size := by have := hbn.size; omega
        refine hK.out _ _ ⟨R10.out, HBx.out⟩ ?_
        clear hK K hHeld hbn hzx hwn hb15
        intro hHeld
        walk_nrm
        try clear wx
        obtain ⟨wx, rfl⟩ : ∃ wx : World, wx = wn := ⟨_, rfl⟩
        have hzx := hzn
        clear hzn
        refine wpAnyL_one 7 (by kernel_rfl) ?_
        ·refine ComesUp.mk rfl (fun K hK => ?_)
         go_simp
         refine (store_Tick Sk n9 va fa vc fc wx HEx.out.chunks HSO.out.at.items HSO.out.at.pages (by have := HSO.out.len; omega) (by have := HSO.out.plen; omega)).mono ?_
         rw [HT.out]
         rintro e wn ⟨va', vc', fa', fc', rfl, hso, hbn⟩
         obtain ⟨bn, hbs'⟩ : ∃ b, b = wx.heap.size := ⟨_, rfl⟩
         rw [← hbs'] at hso
         have HSN := hid hso
         have hbn1 : B10 < bn := by omega
         clear hso hbs'
         replace HX15 := hid (HX15.out.below hbn)
         replace R10 := hid ((hbn.block B10 (by omega)).trans R10.out)
         replace HEx := hid (HEx.out.on hbn)
         replace HBx := hid (HBx.out.trans (hbn.mono HBx.out.size))
         have hzn : L ≤ wn.heap.size := by have := hbn.size; omega
         clear HSO
         refine hK.out _ _ ⟨R10.out, HBx.out⟩ ?_
         clear hK K hHeld hbn hzx 
         intro hHeld
         walk_nrm
         refine wpAnyL_take (i := 8) (v := ?_) rfl (by kernel_rfl) (fun _ _ _ h => h) (Or.inl ⟨by rfl, ?_⟩) (by assumption) ?_
         rotate_left
         ·intro wS hSw; go_simp <;> with_reducible rfl
         walk_nrm
         refine wpAnyL_take (i := 9) (v := ?_) rfl (by kernel_rfl) (fun _ _ _ h => h) (Or.inl ⟨by rfl, ?_⟩) (by assumption) ?_
         rotate_left
         ·intro wS hSw; go_simp <;> with_reducible rfl
         walk_nrm
         refine wpAnyL_take (i := 10) (v := ?_) rfl (by kernel_rfl) (fun _ _ _ h => h) (Or.inl ⟨by rfl, ?_⟩) (by assumption) ?_
         rotate_left
         ·intro wS hSw; go_simp <;> with_reducible rfl
         walk_nrm
         try clear wx
         obtain ⟨wx, rfl⟩ : ∃ wx : World, wx = wn := ⟨_, rfl⟩
         have hzx := hzn
         clear hzn
         revert hHeld
         revert hzx
         revert HSN
         revert hbn1
         revert R10
         revert HBx
         revert HEx
         revert HX15
         revert fc'
         revert vc'
         revert fa'
         revert va'
         revert bn
         revert b15
         revert wx
         exact key trivial
      ·intro wx b15 bn va' fa' vc' fc' HX15 HEx HBx R10 hbn1 HSN hzx hHeld
       refine wpAnyL_one 12 (by kernel_rfl) ?_
       refine ComesUp.mk rfl (fun K hK => ?_)
       rw [if_pos (by rfl)]
       have h15 := HX15.out b15 rfl
       refine wp_store_row 28 _ _ rfl b15 _ rfl rfl _ _ h15.2 storeSize rfl (store_one _ _ _ _ _) ?_
       have n15 : b15 ≠ B10 := by omega
       obtain ⟨wn, hwn⟩ : ∃ wn, wn = wx.setRow b15 (storeV (St) va' vc' fa' fc') := ⟨_, rfl⟩
       rw [← hwn]
       replace HX15 : Hid (Bx L (some b15) (.cells (storeV (St) va' vc' fa' fc') 28 (0, 0)) wn) := fun b hb => by cases hb; exact ⟨h15.1, by rw [hwn]; exact setRow_heap _ _ _ _ _ _ h15.2⟩
       replace R10 : Hid (wn.heap[B10]? = some (.cells (storeV (Sk) va vc fa fc) 28 (0, 0))) := by show wn.heap[B10]? = _; rw [hwn]; exact (setRow_other _ _ _ _ (Ne.symm n15)).trans R10.out
       have hbn : Below WS.heap.size wx wn := by rw [hwn]; exact Below.setRow _ b15 _ (by omega)
       replace HSN : Hid (StOwn bn wn (St) va' vc' fa' fc') := by rw [hwn]; exact HSN.out.setT h15.2 (by decide) (by decide) (by decide)
       replace HEx := hid (HEx.out.below HES.out.globs hbn)
       replace HBx := hid (HBx.out.trans hbn)
       have hzn : L ≤ wn.heap.size := by have := hbn.size; omega
       refine hK.out _ _ ⟨R10.out, HBx.out⟩ ?_
       clear hK K hHeld hbn hzx hwn h15 n15
       intro hHeld
       walk_nrm
       try clear wx
       obtain ⟨wx, rfl⟩ : ∃ wx : World, wx = wn := ⟨_, rfl⟩
       have hzx := hzn
       clear hzn
       refine wpAnyL_last rfl (by kernel_rfl) (fun K hK => ?_)
       go_simp
       refine hK.out _ _ ?_
       clear hK K
       walk_nrm
       refine wpAnyL_done (by kernel_rfl) ?_ _
       go_wp2_with fail
       go_meet
       rw [HWS.out] at HBx
       exact ⟨b15, va', vc', fa', fc', bn, rfl, rfl, hbn1, (by have := (HX15.out b15 rfl).1; omega), (by omega), HBx, R10, HSN, (HX15.out b15 rfl).2⟩
     case rest =>
      obtain ⟨B15, va', vc', fa', fc', bn, rfl, rfl, hbn, n15, hzc, HBc, R10c, HSc, R15⟩ := hcut
      have R8c := hid ((HBc.out.block B8 (blt R8.out)).trans R8.out)
      have HOWc := hid (owns_keptT HOW.out (KeptT.below (P := fun _ => True) HBc.out) trivial)
      have HBWc := hid (HBW.out.trans (HBc.out.mono HBW.out.size))
      clear HBc R8 HOW HBW R10 HSO
      go_wp2_with (first
       | refine wpList_load_row rfl 28 _ rfl B15 rfl _ _ _ _ R15.out Tryz.underlying28 rfl (by kernel_rfl) ?_
       | refine wpList_store_row rfl 28 _ _ rfl B10 _ rfl rfl _ _ R10c.out storeSize rfl (store_one _ _ _ _ _) ?_)
      obtain ⟨wn, hwn⟩ : ∃ wn, wn = wc.setRow B10 (storeV St va' vc' fa' fc') := ⟨_, rfl⟩
      rw [← hwn]
      have F1 : Hid (wn.heap[B10]? = some (.cells (storeV St va' vc' fa' fc') 28 (0, 0))) := by rw [hwn]; exact setRow_heap _ _ _ _ _ _ R10c.out
      have F2 : Hid (StOwn bn wn St va' vc' fa' fc') := by rw [hwn]; exact HSc.out.set hbn
      have F3 : Hid (Below w.heap.size w wn) := by rw [hwn]; exact HBWc.out.trans (Below.setRow _ B10 _ hB10w)
      have F4 : Hid (wn.heap[B8]? = some (.cells #[.int .i64 0, .int .i64 0, .int .i64 0, .int .i64 0, .int .i64 0, .int .i64 0, .int .i64 0, .int .i64 0, .slice none 0 0, .int .i64 0, .int .i64 0, .slice none 0 0] 28 (0, 0))) := by rw [hwn]; exact (setRow_other _ _ _ _ n8).trans R8c.out
      have F5 : Hid (wn.ownsRow (B10 + 1) 35 3 (.slice oa on oc) on xs) := by rw [hwn]; exact owns_setT HOWc.out R10c.out (by decide)
      have F6 : B10 < wn.heap.size := (blt F1.out)
      clear hwn
      go_meet
      exact ⟨St, va', fa', vc', fc', bn, rfl, hbn, F6, HPT, F3, F4, F1, F2, F5⟩
   case rest =>
    clear HPL HBW R8 R10 HSO HOW hbs hzr
    obtain ⟨Sk, va, fa, vc, fc, bs, rfl, hbs, hzr, HPL, HBW, R8, R10, HSO, HOW⟩ := hcut
    have hjm : j ≤ 100000 := by omega
    obtain ⟨wa, rfl⟩ : ∃ wa : World, wa = wc := ⟨_, rfl⟩
    go_upto_region 11 with (fail)
    go_cut [17, 18, 19] (fun v17 v18 v19 wx => ∃ B17 B18 T x va' vc' fa' fc' ha' hc' bn, v17 = .pointer (some ⟨B17, 0, none⟩) ∧ v18 = .pointer (some ⟨B18, 0, none⟩) ∧ v19 = .int .i64 0 ∧ B10 < bn ∧ B17 ≠ B10 ∧ B10 < wx.heap.size ∧ Hid (Played (j + 1) (j + 1) p f T) ∧ Hid (Below wa.heap.size wa wx) ∧ Hid (wx.heap[B10]? = some (.cells (storeV Sk va vc fa fc) 28 (0, 0))) ∧ Hid (StOwn bn wx T va' vc' fa' fc') ∧ Hid (wx.heap[B17]? = some (.cells (storeV T va' vc' fa' fc') 28 (0, 0))) ∧ Hid (wx.heap[B18]? = some (.cells (replyCells x ha' hc') 35 (0, 0))))
    case first =>
     have x0 := Below.keeps HBW.out _ _ Y0.out
     have x1 := Below.keeps HBW.out _ _ Y1.out
     have x2 := Below.keeps HBW.out _ _ Y2.out
     have x3 := Below.keeps HBW.out _ _ Y3.out
     have HES := hid (HE.out.on HBW.out)
     have HEx := HES
     have HBx := hid (Below.refl wa.heap.size wa)
     clear R8 HOW HBW
     obtain ⟨WS, hWS⟩ : ∃ W : World, W = wa := ⟨_, rfl⟩
     have HWS := hid hWS
     rw [← hWS] at x0 x1 x2 x3 HES HBx HEx R10 HSO hzr ⊢
     clear hWS
     obtain ⟨L, hL⟩ : ∃ L, L = WS.heap.size := ⟨_, rfl⟩
     have hBL : B10 < L := by omega
     have hbL : WS.heap.size ≤ L := by have := HBx.out.size; omega
     refine wp_region_L (fun w' : World => w'.heap[B10]? = some (.cells (storeV (Sk) va vc fa fc) 28 (0, 0)) ∧ Below WS.heap.size WS w') 15 16 (by kernel_rfl) (by kernel_rfl) ⟨R10.out, (Below.refl _ _).drew⟩ (fun hHeld => ?_)
     refine wpAnyL_take (i := 1) (v := ?_) rfl (by kernel_rfl) (fun _ _ _ h => h) (Or.inl ⟨by rfl, ?_⟩) (by assumption) ?_
     rotate_left
     ·intro wS hSw; go_simp <;> with_reducible rfl
     walk_nrm
     refine wpAnyL_take (i := 2) (v := ?_) rfl (by kernel_rfl) (fun _ _ _ h => h) (Or.inl ⟨by rfl, ?_⟩) (by assumption) ?_
     rotate_left
     ·intro wS hSw; go_simp <;> with_reducible rfl
     walk_nrm
     refine wpAnyL_take (i := 3) (v := ?_) rfl (by kernel_rfl) (fun _ _ _ h => h) (Or.inl ⟨by rfl, ?_⟩) (by assumption) ?_
     rotate_left
     ·intro wS hSw; go_simp <;> with_reducible rfl
     walk_nrm
     refine wpAnyL_take (i := 4) (v := ?_) rfl (by kernel_rfl) (fun _ _ _ h => h) (Or.inl ⟨by rfl, ?_⟩) (by assumption) ?_
     rotate_left
     ·intro wS hSw; have k0 := Below.keeps hSw.2 _ _ x0; have k1 := Below.keeps hSw.2 _ _ x1; have k2 := Below.keeps hSw.2 _ _ x2; have k3 := Below.keeps hSw.2 _ _ x3; go_simp <;> with_reducible rfl
     walk_nrm
     refine wpAnyL_take (i := 0) (v := _) rfl (by kernel_rfl) (fun _ _ _ h => h) (Or.inl ⟨by rfl, fun wS hSw => exec_load_row 28 _ rfl (B10) rfl _ _ _ _ (hSw.1) Tryz.underlying28 rfl (by kernel_rfl)⟩) (by assumption) ?_
     walk_nrm
     obtain ⟨wx, hwx⟩ : ∃ wx, wx = WS.drew := ⟨_, rfl⟩
     rw [← hwx]
     replace R10 : Hid (wx.heap[B10]? = some (.cells (storeV (Sk) va vc fa fc) 28 (0, 0))) := by rw [hwx]; exact R10
     replace HBx : Hid (Below WS.heap.size WS wx) := by rw [hwx]; exact HBx.out.drew
     replace HSO : Hid (StOwn bs wx (Sk) va vc fa fc) := by rw [hwx]; exact HSO.out.below (Below.refl _ _).drew
     replace HEx : Hid (Env wx) := by rw [hwx]; exact hid (HEx.out.on (Below.refl _ _).drew)
     have hzx : L ≤ wx.heap.size := by rw [hwx, hL]; exact Nat.le_refl _
     have HX17 : Hid (Bx L none (.cells #[.int .i64 0, .int .i64 0, .int .i64 0, .int .i64 0, .int .i64 0, .int .i64 0, .int .i64 0, .int .i64 0, .slice none 0 0, .int .i64 0, .int .i64 0, .slice none 0 0] 28 (0, 0)) wx) := Bx.none
     have HX18 : Hid (Bx L none (.cells #[.int .i64 0, .int .i64 0, .slice none 0 0] 35 (0, 0)) wx) := Bx.none
     clear hwx hL hzr
     apply share2
     ·
      intro key
      have hHeld := hHeld
      have hzx := hzx
      have HSO := HSO
      refine wpAnyL_three 5 11 12 (by kernel_rfl) ?_ ?_ ?_
      ·refine ComesUp.mk rfl (fun K hK => ?_)
       go_simp
       refine (request_is q0 q1 q2 q3 hq0 hq1 hq2 hq3 wx).mono ?_
       rintro e wn ⟨rq, ka, kc, rfl, hka, hrq, hbn⟩
       have HKA := hid hka
       have HRQ := hid hrq
       clear hka hrq
       replace HX17 := hid (HX17.out.below hbn)
       replace HX18 := hid (HX18.out.below hbn)
       replace R10 := hid ((hbn.block B10 (by omega)).trans R10.out)
       replace HEx := hid (HEx.out.on hbn)
       replace HBx := hid (HBx.out.trans (hbn.mono HBx.out.size))
       try replace HSO := hid (HSO.out.below hbn)
       try replace HKA := hid (HKA.out.keep (Below.keeps hbn) (fun _ _ h => h))
       have hzn : L ≤ wn.heap.size := by have := hbn.size; omega
       refine hK.out _ _ ⟨R10.out, HBx.out⟩ ?_
       clear hK K hHeld hbn hzx
       intro hHeld
       walk_nrm
       try clear wx
       obtain ⟨wx, rfl⟩ : ∃ wx : World, wx = wn := ⟨_, rfl⟩
       have hzx := hzn
       clear hzn
       refine wpAnyL_three 6 11 12 (by kernel_rfl) ?_ ?_ ?_
       ·refine ComesUp.mk rfl (fun K hK => ?_)
        go_simp
        obtain ⟨T, x, hd, hpl⟩ := HPL.out.do HRQ.out hjm
        have hsm := req8_small HRQ.out
        refine (do_at (s := Sk) (r := rq) (va := va) (vc := vc) (fa := fa) (fc := fc) (ka := ka) (kc := kc) HEx (hid HSO.out.at) HKA.out hsm.1 hsm.2 rfl rfl).mono ?_
        rw [hd]
        rintro e wn ⟨va', vc', fa', fc', ha', hc', rfl, hso, -, hbn⟩
        have HPT := hid hpl
        clear hd hpl hsm HKA HRQ
        obtain ⟨bn, hbs'⟩ : ∃ b, b = wx.heap.size := ⟨_, rfl⟩
        rw [← hbs'] at hso
        have HSN := hid hso
        have hbn1 : B10 < bn := by omega
        clear hso hbs'
        replace HX17 := hid (HX17.out.below hbn)
        replace HX18 := hid (HX18.out.below hbn)
        replace R10 := hid ((hbn.block B10 (by omega)).trans R10.out)
        replace HEx := hid (HEx.out.on hbn)
        replace HBx := hid (HBx.out.trans (hbn.mono HBx.out.size))
        have hzn : L ≤ wn.heap.size := by have := hbn.size; omega
        clear HSO
        refine hK.out _ _ ⟨R10.out, HBx.out⟩ ?_
        clear hK K hHeld hbn hzx 
        intro hHeld
        walk_nrm
        refine wpAnyL_take (i := 7) (v := ?_) rfl (by kernel_rfl) (fun _ _ _ h => h) (Or.inl ⟨by rfl, ?_⟩) (by assumption) ?_
        rotate_left
        ·intro wS hSw; go_simp <;> with_reducible rfl
        walk_nrm
        refine wpAnyL_take (i := 8) (v := ?_) rfl (by kernel_rfl) (fun _ _ _ h => h) (Or.inl ⟨by rfl, ?_⟩) (by assumption) ?_
        rotate_left
        ·intro wS hSw; go_simp <;> with_reducible rfl
        walk_nrm
        refine wpAnyL_take (i := 9) (v := ?_) rfl (by kernel_rfl) (fun _ _ _ h => h) (Or.inl ⟨by rfl, ?_⟩) (by assumption) ?_
        rotate_left
        ·intro wS hSw; go_simp <;> with_reducible rfl
        walk_nrm
        refine wpAnyL_take (i := 10) (v := ?_) rfl (by kernel_rfl) (fun _ _ _ h => h) (Or.inl ⟨by rfl, ?_⟩) (by assumption) ?_
        rotate_left
        ·intro wS hSw; go_simp <;> with_reducible rfl
        walk_nrm
        try clear wx
        obtain ⟨wx, rfl⟩ : ∃ wx : World, wx = wn := ⟨_, rfl⟩
        have hzx := hzn
        clear hzn
        refine wpAnyL_two 11 12 (by kernel_rfl) ?_ ?_
        ·refine ComesUp.mk rfl (fun K hK => ?_)
         go_simp
         obtain ⟨wn, hwn⟩ : ∃ wn, wn = wx.alloc (.cells #[.int .i64 0, .int .i64 0, .int .i64 0, .int .i64 0, .int .i64 0, .int .i64 0, .int .i64 0, .int .i64 0, .slice none 0 0, .int .i64 0, .int .i64 0, .slice none 0 0] 28) := ⟨_, rfl⟩
         obtain ⟨b17, hb17⟩ : ∃ b, b = wx.heap.size := ⟨_, rfl⟩
         rw [← hwn, ← hb17]
         have hbn := below_new hwn
         replace HX17 : Hid (Bx L (some b17) (.cells #[.int .i64 0, .int .i64 0, .int .i64 0, .int .i64 0, .int .i64 0, .int .i64 0, .int .i64 0, .int .i64 0, .slice none 0 0, .int .i64 0, .int .i64 0, .slice none 0 0] 28 (0, 0)) wn) := by rw [hb17]; exact Bx.new hwn hzx
         replace HX18 := hid (HX18.out.below hbn)
         replace R10 := hid ((hbn.block B10 (by omega)).trans R10.out)
         replace HEx := hid (HEx.out.on hbn)
         replace HBx := hid (HBx.out.trans (hbn.mono HBx.out.size))
         try replace HSO := hid (HSO.out.below hbn)
         try replace HKA := hid (HKA.out.keep (Below.keeps hbn) (fun _ _ h => h))
         try replace HSN := hid (HSN.out.below hbn)
         have hzn : L ≤ wn.heap.size := by have := hbn.size; omega
         refine hK.out _ _ ⟨R10.out, HBx.out⟩ ?_
         clear hK K hHeld hbn hzx hwn hb17
         intro hHeld
         walk_nrm
         try clear wx
         obtain ⟨wx, rfl⟩ : ∃ wx : World, wx = wn := ⟨_, rfl⟩
         have hzx := hzn
         clear hzn
         refine wpAnyL_one 12 (by kernel_rfl) ?_
         ·refine ComesUp.mk rfl (fun K hK => ?_)
          go_simp
          obtain ⟨wn, hwn⟩ : ∃ wn, wn = wx.alloc (.cells #[.int .i64 0, .int .i64 0, .slice none 0 0] 35) := ⟨_, rfl⟩
          obtain ⟨b18, hb18⟩ : ∃ b, b = wx.heap.size := ⟨_, rfl⟩
          rw [← hwn, ← hb18]
          have hbn := below_new hwn
          replace HX17 := hid (HX17.out.below hbn)
          replace HX18 : Hid (Bx L (some b18) (.cells #[.int .i64 0, .int .i64 0, .slice none 0 0] 35 (0, 0)) wn) := by rw [hb18]; exact Bx.new hwn hzx
          replace R10 := hid ((hbn.block B10 (by omega)).trans R10.out)
          replace HEx := hid (HEx.out.on hbn)
          replace HBx := hid (HBx.out.trans (hbn.mono HBx.out.size))
          try replace HSO := hid (HSO.out.below hbn)
          try replace HKA := hid (HKA.out.keep (Below.keeps hbn) (fun _ _ h => h))
          try replace HSN := hid (HSN.out.below hbn)
          have hzn : L ≤ wn.heap.size := by have := hbn.size; omega
          refine hK.out _ _ ⟨R10.out, HBx.out⟩ ?_
          clear hK K hHeld hbn hzx hwn hb18
          intro hHeld
          walk_nrm
          try clear wx
          obtain ⟨wx, rfl⟩ : ∃ wx : World, wx = wn := ⟨_, rfl⟩
          have hzx := hzn
          clear hzn
          revert hHeld
          revert hzx
          revert HSN
          revert hbn1
          revert R10
          revert HBx
          revert HEx
          revert HX17
          revert HX18
          revert HPT
          revert hc'
          revert ha'
          revert x
          revert T
          revert kc
          revert ka
          revert rq
          revert fc'
          revert vc'
          revert fa'
          revert va'
          revert bn
          revert b18
          revert b17
          revert wx
          exact key trivial
        ·refine ComesUp.mk rfl (fun K hK => ?_)
         go_simp
         obtain ⟨wn, hwn⟩ : ∃ wn, wn = wx.alloc (.cells #[.int .i64 0, .int .i64 0, .slice none 0 0] 35) := ⟨_, rfl⟩
         obtain ⟨b18, hb18⟩ : ∃ b, b = wx.heap.size := ⟨_, rfl⟩
         rw [← hwn, ← hb18]
         have hbn := below_new hwn
         replace HX17 := hid (HX17.out.below hbn)
         replace HX18 : Hid (Bx L (some b18) (.cells #[.int .i64 0, .int .i64 0, .slice none 0 0] 35 (0, 0)) wn) := by rw [hb18]; exact Bx.new hwn hzx
         replace R10 := hid ((hbn.block B10 (by omega)).trans R10.out)
         replace HEx := hid (HEx.out.on hbn)
         replace HBx := hid (HBx.out.trans (hbn.mono HBx.out.size))
         try replace HSO := hid (HSO.out.below hbn)
         try replace HKA := hid (HKA.out.keep (Below.keeps hbn) (fun _ _ h => h))
         try replace HSN := hid (HSN.out.below hbn)
         have hzn : L ≤ wn.heap.size := by have := hbn.size; omega
         refine hK.out _ _ ⟨R10.out, HBx.out⟩ ?_
         clear hK K hHeld hbn hzx hwn hb18
         intro hHeld
         walk_nrm
         try clear wx
         obtain ⟨wx, rfl⟩ : ∃ wx : World, wx = wn := ⟨_, rfl⟩
         have hzx := hzn
         clear hzn
         refine wpAnyL_one 11 (by kernel_rfl) ?_
         ·refine ComesUp.mk rfl (fun K hK => ?_)
          go_simp
          obtain ⟨wn, hwn⟩ : ∃ wn, wn = wx.alloc (.cells #[.int .i64 0, .int .i64 0, .int .i64 0, .int .i64 0, .int .i64 0, .int .i64 0, .int .i64 0, .int .i64 0, .slice none 0 0, .int .i64 0, .int .i64 0, .slice none 0 0] 28) := ⟨_, rfl⟩
          obtain ⟨b17, hb17⟩ : ∃ b, b = wx.heap.size := ⟨_, rfl⟩
          rw [← hwn, ← hb17]
          have hbn := below_new hwn
          replace HX17 : Hid (Bx L (some b17) (.cells #[.int .i64 0, .int .i64 0, .int .i64 0, .int .i64 0, .int .i64 0, .int .i64 0, .int .i64 0, .int .i64 0, .slice none 0 0, .int .i64 0, .int .i64 0, .slice none 0 0] 28 (0, 0)) wn) := by rw [hb17]; exact Bx.new hwn hzx
          replace HX18 := hid (HX18.out.below hbn)
          replace R10 := hid ((hbn.block B10 (by omega)).trans R10.out)
          replace HEx := hid (HEx.out.on hbn)
          replace HBx := hid (HBx.out.trans (hbn.mono HBx.out.size))
          try replace HSO := hid (HSO.out.below hbn)
          try replace HKA := hid (HKA.out.keep (Below.keeps hbn) (fun _ _ h => h))
          try replace HSN := hid (HSN.out.below hbn)
          have hzn : L ≤ wn.heap.size := by have := hbn.size; omega
          refine hK.out _ _ ⟨R10.out, HBx.out⟩ ?_
          clear hK K hHeld hbn hzx hwn hb17
          intro hHeld
          walk_nrm
          try clear wx
          obtain ⟨wx, rfl⟩ : ∃ wx : World, wx = wn := ⟨_, rfl⟩
          have hzx := hzn
          clear hzn
          revert hHeld
          revert hzx
          revert HSN
          revert hbn1
          revert R10
          revert HBx
          revert HEx
          revert HX17
          revert HX18
          revert HPT
          revert hc'
          revert ha'
          revert x
          revert T
          revert kc
          revert ka
          revert rq
          revert fc'
          revert vc'
          revert fa'
          revert va'
          revert bn
          revert b18
          revert b17
          revert wx
          exact key trivial
       ·refine ComesUp.mk rfl (fun K hK => ?_)
        go_simp
        obtain ⟨wn, hwn⟩ : ∃ wn, wn = wx.alloc (.cells #[.int .i64 0, .int .i64 0, .int .i64 0, .int .i64 0, .int .i64 0, .int .i64 0, .int .i64 0, .int .i64 0, .slice none 0 0, .int .i64 0, .int .i64 0, .slice none 0 0] 28) := ⟨_, rfl⟩
        obtain ⟨b17, hb17⟩ : ∃ b, b = wx.heap.size := ⟨_, rfl⟩
        rw [← hwn, ← hb17]
        have hbn := below_new hwn
        replace HX17 : Hid (Bx L (some b17) (.cells #[.int .i64 0, .int .i64 0, .int .i64 0, .int .i64 0, .int .i64 0, .int .i64 0, .int .i64 0, .int .i64 0, .slice none 0 0, .int .i64 0, .int .i64 0, .slice none 0 0] 28 (0, 0)) wn) := by rw [hb17]; exact Bx.new hwn hzx
        replace HX18 := hid (HX18.out.below hbn)
        replace R10 := hid ((hbn.block B10 (by omega)).trans R10.out)
        replace HEx := hid (HEx.out.on hbn)
        replace HBx := hid (HBx.out.trans (hbn.mono HBx.out.size))
        try replace HSO := hid (HSO.out.below hbn)
        try replace HKA := hid (HKA.out.keep (Below.keeps hbn) (fun _ _ h => h))
        try replace HSN := hid (HSN.out.below hbn)
        have hzn : L ≤ wn.heap.size := by have := hbn.size; omega
        refine hK.out _ _ ⟨R10.out, HBx.out⟩ ?_
        clear hK K hHeld hbn hzx hwn hb17
        intro hHeld
        walk_nrm
        try clear wx
        obtain ⟨wx, rfl⟩ : ∃ wx : World, wx = wn := ⟨_, rfl⟩
        have hzx := hzn
        clear hzn
        refine wpAnyL_two 6 12 (by kernel_rfl) ?_ ?_
        ·refine ComesUp.mk rfl (fun K hK => ?_)
         go_simp
         obtain ⟨T, x, hd, hpl⟩ := HPL.out.do HRQ.out hjm
         have hsm := req8_small HRQ.out
         refine (do_at (s := Sk) (r := rq) (va := va) (vc := vc) (fa := fa) (fc := fc) (ka := ka) (kc := kc) HEx (hid HSO.out.at) HKA.out hsm.1 hsm.2 rfl rfl).mono ?_
         rw [hd]
         rintro e wn ⟨va', vc', fa', fc', ha', hc', rfl, hso, -, hbn⟩
         have HPT := hid hpl
         clear hd hpl hsm HKA HRQ
         obtain ⟨bn, hbs'⟩ : ∃ b, b = wx.heap.size := ⟨_, rfl⟩
         rw [← hbs'] at hso
         have HSN := hid hso
         have hbn1 : B10 < bn := by omega
         clear hso hbs'
         replace HX17 := hid (HX17.out.below hbn)
         replace HX18 := hid (HX18.out.below hbn)
         replace R10 := hid ((hbn.block B10 (by omega)).trans R10.out)
         replace HEx := hid (HEx.out.on hbn)
         replace HBx := hid (HBx.out.trans (hbn.mono HBx.out.size))
         have hzn : L ≤ wn.heap.size := by have := hbn.size; omega
         clear HSO
         refine hK.out _ _ ⟨R10.out, HBx.out⟩ ?_
         clear hK K hHeld hbn hzx 
         intro hHeld
         walk_nrm
         refine wpAnyL_take (i := 7) (v := ?_) rfl (by kernel_rfl) (fun _ _ _ h => h) (Or.inl ⟨by rfl, ?_⟩) (by assumption) ?_
         rotate_left
         ·intro wS hSw; go_simp <;> with_reducible rfl
         walk_nrm
         refine wpAnyL_take (i := 8) (v := ?_) rfl (by kernel_rfl) (fun _ _ _ h => h) (Or.inl ⟨by rfl, ?_⟩) (by assumption) ?_
         rotate_left
         ·intro wS hSw; go_simp <;> with_reducible rfl
         walk_nrm
         refine wpAnyL_take (i := 9) (v := ?_) rfl (by kernel_rfl) (fun _ _ _ h => h) (Or.inl ⟨by rfl, ?_⟩) (by assumption) ?_
         rotate_left
         ·intro wS hSw; go_simp <;> with_reducible rfl
         walk_nrm
         refine wpAnyL_take (i := 10) (v := ?_) rfl (by kernel_rfl) (fun _ _ _ h => h) (Or.inl ⟨by rfl, ?_⟩) (by assumption) ?_
         rotate_left
         ·intro wS hSw; go_simp <;> with_reducible rfl
         walk_nrm
         try clear wx
         obtain ⟨wx, rfl⟩ : ∃ wx : World, wx = wn := ⟨_, rfl⟩
         have hzx := hzn
         clear hzn
         refine wpAnyL_one 12 (by kernel_rfl) ?_
         ·refine ComesUp.mk rfl (fun K hK => ?_)
          go_simp
          obtain ⟨wn, hwn⟩ : ∃ wn, wn = wx.alloc (.cells #[.int .i64 0, .int .i64 0, .slice none 0 0] 35) := ⟨_, rfl⟩
          obtain ⟨b18, hb18⟩ : ∃ b, b = wx.heap.size := ⟨_, rfl⟩
          rw [← hwn, ← hb18]
          have hbn := below_new hwn
          replace HX17 := hid (HX17.out.below hbn)
          replace HX18 : Hid (Bx L (some b18) (.cells #[.int .i64 0, .int .i64 0, .slice none 0 0] 35 (0, 0)) wn) := by rw [hb18]; exact Bx.new hwn hzx
          replace R10 := hid ((hbn.block B10 (by omega)).trans R10.out)
          replace HEx := hid (HEx.out.on hbn)
          replace HBx := hid (HBx.out.trans (hbn.mono HBx.out.size))
          try replace HSO := hid (HSO.out.below hbn)
          try replace HKA := hid (HKA.out.keep (Below.keeps hbn) (fun _ _ h => h))
          try replace HSN := hid (HSN.out.below hbn)
          have hzn : L ≤ wn.heap.size := by have := hbn.size; omega
          refine hK.out _ _ ⟨R10.out, HBx.out⟩ ?_
          clear hK K hHeld hbn hzx hwn hb18
          intro hHeld
          walk_nrm
          try clear wx
          obtain ⟨wx, rfl⟩ : ∃ wx : World, wx = wn := ⟨_, rfl⟩
          have hzx := hzn
          clear hzn
          revert hHeld
          revert hzx
          revert HSN
          revert hbn1
          revert R10
          revert HBx
          revert HEx
          revert HX17
          revert HX18
          revert HPT
          revert hc'
          revert ha'
          revert x
          revert T
          revert kc
          revert ka
          revert rq
          revert fc'
          revert vc'
          revert fa'
          revert va'
          revert bn
          revert b18
          revert b17
          revert wx
          exact key trivial
        ·refine ComesUp.mk rfl (fun K hK => ?_)
         go_simp
         obtain ⟨wn, hwn⟩ : ∃ wn, wn = wx.alloc (.cells #[.int .i64 0, .int .i64 0, .slice none 0 0] 35) := ⟨_, rfl⟩
         obtain ⟨b18, hb18⟩ : ∃ b, b = wx.heap.size := ⟨_, rfl⟩
         rw [← hwn, ← hb18]
         have hbn := below_new hwn
         replace HX17 := hid (HX17.out.below hbn)
         replace HX18 : Hid (Bx L (some b18) (.cells #[.int .i64 0, .int .i64 0, .slice none 0 0] 35 (0, 0)) wn) := by rw [hb18]; exact Bx.new hwn hzx
         replace R10 := hid ((hbn.block B10 (by omega)).trans R10.out)
         replace HEx := hid (HEx.out.on hbn)
         replace HBx := hid (HBx.out.trans (hbn.mono HBx.out.size))
         try replace HSO := hid (HSO.out.below hbn)
         try replace HKA := hid (HKA.out.keep (Below.keeps hbn) (fun _ _ h => h))
         try replace HSN := hid (HSN.out.below hbn)
         have hzn : L ≤ wn.heap.size := by have := hbn.size; omega
         refine hK.out _ _ ⟨R10.out, HBx.out⟩ ?_
         clear hK K hHeld hbn hzx hwn hb18
         intro hHeld
         walk_nrm
         try clear wx
         obtain ⟨wx, rfl⟩ : ∃ wx : World, wx = wn := ⟨_, rfl⟩
         have hzx := hzn
         clear hzn
         refine wpAnyL_one 6 (by kernel_rfl) ?_
         ·refine ComesUp.mk rfl (fun K hK => ?_)
          go_simp
          obtain ⟨T, x, hd, hpl⟩ := HPL.out.do HRQ.out hjm
          have hsm := req8_small HRQ.out
          refine (do_at (s := Sk) (r := rq) (va := va) (vc := vc) (fa := fa) (fc := fc) (ka := ka) (kc := kc) HEx (hid HSO.out.at) HKA.out hsm.1 hsm.2 rfl rfl).mono ?_
          rw [hd]
          rintro e wn ⟨va', vc', fa', fc', ha', hc', rfl, hso, -, hbn⟩
          have HPT := hid hpl
          clear hd hpl hsm HKA HRQ
          obtain ⟨bn, hbs'⟩ : ∃ b, b = wx.heap.size := ⟨_, rfl⟩
          rw [← hbs'] at hso
          have HSN := hid hso
          have hbn1 : B10 < bn := by omega
          clear hso hbs'
          replace HX17 := hid (HX17.out.below hbn)
          replace HX18 := hid (HX18.out.below hbn)
          replace R10 := hid ((hbn.block B10 (by omega)).trans R10.out)
          replace HEx := hid (HEx.out.on hbn)
          replace HBx := hid (HBx.out.trans (hbn.mono HBx.out.size))
          have hzn : L ≤ wn.heap.size := by have := hbn.size; omega
          clear HSO
          refine hK.out _ _ ⟨R10.out, HBx.out⟩ ?_
          clear hK K hHeld hbn hzx 
          intro hHeld
          walk_nrm
          refine wpAnyL_take (i := 7) (v := ?_) rfl (by kernel_rfl) (fun _ _ _ h => h) (Or.inl ⟨by rfl, ?_⟩) (by assumption) ?_
          rotate_left
          ·intro wS hSw; go_simp <;> with_reducible rfl
          walk_nrm
          refine wpAnyL_take (i := 8) (v := ?_) rfl (by kernel_rfl) (fun _ _ _ h => h) (Or.inl ⟨by rfl, ?_⟩) (by assumption) ?_
          rotate_left
          ·intro wS hSw; go_simp <;> with_reducible rfl
          walk_nrm
          refine wpAnyL_take (i := 9) (v := ?_) rfl (by kernel_rfl) (fun _ _ _ h => h) (Or.inl ⟨by rfl, ?_⟩) (by assumption) ?_
          rotate_left
          ·intro wS hSw; go_simp <;> with_reducible rfl
          walk_nrm
          refine wpAnyL_take (i := 10) (v := ?_) rfl (by kernel_rfl) (fun _ _ _ h => h) (Or.inl ⟨by rfl, ?_⟩) (by assumption) ?_
          rotate_left
          ·intro wS hSw; go_simp <;> with_reducible rfl
          walk_nrm
          try clear wx
          obtain ⟨wx, rfl⟩ : ∃ wx : World, wx = wn := ⟨_, rfl⟩
          have hzx := hzn
          clear hzn
          revert hHeld
          revert hzx
          revert HSN
          revert hbn1
          revert R10
          revert HBx
          revert HEx
          revert HX17
          revert HX18
          revert HPT
          revert hc'
          revert ha'
          revert x
          revert T
          revert kc
          revert ka
          revert rq
          revert fc'
          revert vc'
          revert fa'
          revert va'
          revert bn
          revert b18
          revert b17
          revert wx
          exact key trivial
       ·refine ComesUp.mk rfl (fun K hK => ?_)
        go_simp
        obtain ⟨wn, hwn⟩ : ∃ wn, wn = wx.alloc (.cells #[.int .i64 0, .int .i64 0, .slice none 0 0] 35) := ⟨_, rfl⟩
        obtain ⟨b18, hb18⟩ : ∃ b, b = wx.heap.size := ⟨_, rfl⟩
        rw [← hwn, ← hb18]
        have hbn := below_new hwn
        replace HX17 := hid (HX17.out.below hbn)
        replace HX18 : Hid (Bx L (some b18) (.cells #[.int .i64 0, .int .i64 0, .slice none 0 0] 35 (0, 0)) wn) := by rw [hb18]; exact Bx.new hwn hzx
        replace R10 := hid ((hbn.block B10 (by omega)).trans R10.out)
        replace HEx := hid (HEx.out.on hbn)
        replace HBx := hid (HBx.out.trans (hbn.mono HBx.out.size))
        try replace HSO := hid (HSO.out.below hbn)
        try replace HKA := hid (HKA.out.keep (Below.keeps hbn) (fun _ _ h => h))
        try replace HSN := hid (HSN.out.below hbn)
        have hzn : L ≤ wn.heap.size := by have := hbn.size; omega
        refine hK.out _ _ ⟨R10.out, HBx.out⟩ ?_
        clear hK K hHeld hbn hzx hwn hb18
        intro hHeld
        walk_nrm
        try clear wx
        obtain ⟨wx, rfl⟩ : ∃ wx : World, wx = wn := ⟨_, rfl⟩
        have hzx := hzn
        clear hzn
        refine wpAnyL_two 6 11 (by kernel_rfl) ?_ ?_
        ·refine ComesUp.mk rfl (fun K hK => ?_)
         go_simp
         obtain ⟨T, x, hd, hpl⟩ := HPL.out.do HRQ.out hjm
         have hsm := req8_small HRQ.out
         refine (do_at (s := Sk) (r := rq) (va := va) (vc := vc) (fa := fa) (fc := fc) (ka := ka) (kc := kc) HEx (hid HSO.out.at) HKA.out hsm.1 hsm.2 rfl rfl).mono ?_
         rw [hd]
         rintro e wn ⟨va', vc', fa', fc', ha', hc', rfl, hso, -, hbn⟩
         have HPT := hid hpl
         clear hd hpl hsm HKA HRQ
         obtain ⟨bn, hbs'⟩ : ∃ b, b = wx.heap.size := ⟨_, rfl⟩
         rw [← hbs'] at hso
         have HSN := hid hso
         have hbn1 : B10 < bn := by omega
         clear hso hbs'
         replace HX17 := hid (HX17.out.below hbn)
         replace HX18 := hid (HX18.out.below hbn)
         replace R10 := hid ((hbn.block B10 (by omega)).trans R10.out)
         replace HEx := hid (HEx.out.on hbn)
         replace HBx := hid (HBx.out.trans (hbn.mono HBx.out.size))
         have hzn : L ≤ wn.heap.size := by have := hbn.size; omega
         clear HSO
         refine hK.out _ _ ⟨R10.out, HBx.out⟩ ?_
         clear hK K hHeld hbn hzx 
         intro hHeld
         walk_nrm
         refine wpAnyL_take (i := 7) (v := ?_) rfl (by kernel_rfl) (fun _ _ _ h => h) (Or.inl ⟨by rfl, ?_⟩) (by assumption) ?_
         rotate_left
         ·intro wS hSw; go_simp <;> with_reducible rfl
         walk_nrm
         refine wpAnyL_take (i := 8) (v := ?_) rfl (by kernel_rfl) (fun _ _ _ h => h) (Or.inl ⟨by rfl, ?_⟩) (by assumption) ?_
         rotate_left
         ·intro wS hSw; go_simp <;> with_reducible rfl
         walk_nrm
         refine wpAnyL_take (i := 9) (v := ?_) rfl (by kernel_rfl) (fun _ _ _ h => h) (Or.inl ⟨by rfl, ?_⟩) (by assumption) ?_
         rotate_left
         ·intro wS hSw; go_simp <;> with_reducible rfl
         walk_nrm
         refine wpAnyL_take (i := 10) (v := ?_) rfl (by kernel_rfl) (fun _ _ _ h => h) (Or.inl ⟨by rfl, ?_⟩) (by assumption) ?_
         rotate_left
         ·intro wS hSw; go_simp <;> with_reducible rfl
         walk_nrm
         try clear wx
         obtain ⟨wx, rfl⟩ : ∃ wx : World, wx = wn := ⟨_, rfl⟩
         have hzx := hzn
         clear hzn
         refine wpAnyL_one 11 (by kernel_rfl) ?_
         ·refine ComesUp.mk rfl (fun K hK => ?_)
          go_simp
          obtain ⟨wn, hwn⟩ : ∃ wn, wn = wx.alloc (.cells #[.int .i64 0, .int .i64 0, .int .i64 0, .int .i64 0, .int .i64 0, .int .i64 0, .int .i64 0, .int .i64 0, .slice none 0 0, .int .i64 0, .int .i64 0, .slice none 0 0] 28) := ⟨_, rfl⟩
          obtain ⟨b17, hb17⟩ : ∃ b, b = wx.heap.size := ⟨_, rfl⟩
          rw [← hwn, ← hb17]
          have hbn := below_new hwn
          replace HX17 : Hid (Bx L (some b17) (.cells #[.int .i64 0, .int .i64 0, .int .i64 0, .int .i64 0, .int .i64 0, .int .i64 0, .int .i64 0, .int .i64 0, .slice none 0 0, .int .i64 0, .int .i64 0, .slice none 0 0] 28 (0, 0)) wn) := by rw [hb17]; exact Bx.new hwn hzx
          replace HX18 := hid (HX18.out.below hbn)
          replace R10 := hid ((hbn.block B10 (by omega)).trans R10.out)
          replace HEx := hid (HEx.out.on hbn)
          replace HBx := hid (HBx.out.trans (hbn.mono HBx.out.size))
          try replace HSO := hid (HSO.out.below hbn)
          try replace HKA := hid (HKA.out.keep (Below.keeps hbn) (fun _ _ h => h))
          try replace HSN := hid (HSN.out.below hbn)
          have hzn : L ≤ wn.heap.size := by have := hbn.size; omega
          refine hK.out _ _ ⟨R10.out, HBx.out⟩ ?_
          clear hK K hHeld hbn hzx hwn hb17
          intro hHeld
          walk_nrm
          try clear wx
          obtain ⟨wx, rfl⟩ : ∃ wx : World, wx = wn := ⟨_, rfl⟩
          have hzx := hzn
          clear hzn
          revert hHeld
          revert hzx
          revert HSN
          revert hbn1
          revert R10
          revert HBx
          revert HEx
          revert HX17
          revert HX18
          revert HPT
          revert hc'
          revert ha'
          revert x
          revert T
          revert kc
          revert ka
          revert rq
          revert fc'
          revert vc'
          revert fa'
          revert va'
          revert bn
          revert b18
          revert b17
          revert wx
          exact key trivial
        ·refine ComesUp.mk rfl (fun K hK => ?_)
         go_simp
         obtain ⟨wn, hwn⟩ : ∃ wn, wn = wx.alloc (.cells #[.int .i64 0, .int .i64 0, .int .i64 0, .int .i64 0, .int .i64 0, .int .i64 0, .int .i64 0, .int .i64 0, .slice none 0 0, .int .i64 0, .int .i64 0, .slice none 0 0] 28) := ⟨_, rfl⟩
         obtain ⟨b17, hb17⟩ : ∃ b, b = wx.heap.size := ⟨_, rfl⟩
         rw [← hwn, ← hb17]
         have hbn := below_new hwn
         replace HX17 : Hid (Bx L (some b17) (.cells #[.int .i64 0, .int .i64 0, .int .i64 0, .int .i64 0, .int .i64 0, .int .i64 0, .int .i64 0, .int .i64 0, .slice none 0 0, .int .i64 0, .int .i64 0, .slice none 0 0] 28 (0, 0)) wn) := by rw [hb17]; exact Bx.new hwn hzx
         replace HX18 := hid (HX18.out.below hbn)
         replace R10 := hid ((hbn.block B10 (by omega)).trans R10.out)
         replace HEx := hid (HEx.out.on hbn)
         replace HBx := hid (HBx.out.trans (hbn.mono HBx.out.size))
         try replace HSO := hid (HSO.out.below hbn)
         try replace HKA := hid (HKA.out.keep (Below.keeps hbn) (fun _ _ h => h))
         try replace HSN := hid (HSN.out.below hbn)
         have hzn : L ≤ wn.heap.size := by have := hbn.size; omega
         refine hK.out _ _ ⟨R10.out, HBx.out⟩ ?_
         clear hK K hHeld hbn hzx hwn hb17
         intro hHeld
         walk_nrm
         try clear wx
         obtain ⟨wx, rfl⟩ : ∃ wx : World, wx = wn := ⟨_, rfl⟩
         have hzx := hzn
         clear hzn
         refine wpAnyL_one 6 (by kernel_rfl) ?_
         ·refine ComesUp.mk rfl (fun K hK => ?_)
          go_simp
          obtain ⟨T, x, hd, hpl⟩ := HPL.out.do HRQ.out hjm
          have hsm := req8_small HRQ.out
          refine (do_at (s := Sk) (r := rq) (va := va) (vc := vc) (fa := fa) (fc := fc) (ka := ka) (kc := kc) HEx (hid HSO.out.at) HKA.out hsm.1 hsm.2 rfl rfl).mono ?_
          rw [hd]
          rintro e wn ⟨va', vc', fa', fc', ha', hc', rfl, hso, -, hbn⟩
          have HPT := hid hpl
          clear hd hpl hsm HKA HRQ
          obtain ⟨bn, hbs'⟩ : ∃ b, b = wx.heap.size := ⟨_, rfl⟩
          rw [← hbs'] at hso
          have HSN := hid hso
          have hbn1 : B10 < bn := by omega
          clear hso hbs'
          replace HX17 := hid (HX17.out.below hbn)
          replace HX18 := hid (HX18.out.below hbn)
          replace R10 := hid ((hbn.block B10 (by omega)).trans R10.out)
          replace HEx := hid (HEx.out.on hbn)
          replace HBx := hid (HBx.out.trans (hbn.mono HBx.out.size))
          have hzn : L ≤ wn.heap.size := by have := hbn.size; omega
          clear HSO
          refine hK.out _ _ ⟨R10.out, HBx.out⟩ ?_
          clear hK K hHeld hbn hzx 
          intro hHeld
          walk_nrm
          refine wpAnyL_take (i := 7) (v := ?_) rfl (by kernel_rfl) (fun _ _ _ h => h) (Or.inl ⟨by rfl, ?_⟩) (by assumption) ?_
          rotate_left
          ·intro wS hSw; go_simp <;> with_reducible rfl
          walk_nrm
          refine wpAnyL_take (i := 8) (v := ?_) rfl (by kernel_rfl) (fun _ _ _ h => h) (Or.inl ⟨by rfl, ?_⟩) (by assumption) ?_
          rotate_left
          ·intro wS hSw; go_simp <;> with_reducible rfl
          walk_nrm
          refine wpAnyL_take (i := 9) (v := ?_) rfl (by kernel_rfl) (fun _ _ _ h => h) (Or.inl ⟨by rfl, ?_⟩) (by assumption) ?_
          rotate_left
          ·intro wS hSw; go_simp <;> with_reducible rfl
          walk_nrm
          refine wpAnyL_take (i := 10) (v := ?_) rfl (by kernel_rfl) (fun _ _ _ h => h) (Or.inl ⟨by rfl, ?_⟩) (by assumption) ?_
          rotate_left
          ·intro wS hSw; go_simp <;> with_reducible rfl
          walk_nrm
          try clear wx
          obtain ⟨wx, rfl⟩ : ∃ wx : World, wx = wn := ⟨_, rfl⟩
          have hzx := hzn
          clear hzn
          revert hHeld
          revert hzx
          revert HSN
          revert hbn1
          revert R10
          revert HBx
          revert HEx
          revert HX17
          revert HX18
          revert HPT
          revert hc'
          revert ha'
          revert x
          revert T
          revert kc
          revert ka
          revert rq
          revert fc'
          revert vc'
          revert fa'
          revert va'
          revert bn
          revert b18
          revert b17
          revert wx
          exact key trivial
      ·refine ComesUp.mk rfl (fun K hK => ?_)
       go_simp
       obtain ⟨wn, hwn⟩ : ∃ wn, wn = wx.alloc (.cells #[.int .i64 0, .int .i64 0, .int .i64 0, .int .i64 0, .int .i64 0, .int .i64 0, .int .i64 0, .int .i64 0, .slice none 0 0, .int .i64 0, .int .i64 0, .slice none 0 0] 28) := ⟨_, rfl⟩
       obtain ⟨b17, hb17⟩ : ∃ b, b = wx.heap.size := ⟨_, rfl⟩
       rw [← hwn, ← hb17]
       have hbn := below_new hwn
       replace HX17 : Hid (Bx L (some b17) (.cells #[.int .i64 0, .int .i64 0, .int .i64 0, .int .i64 0, .int .i64 0, .int .i64 0, .int .i64 0, .int .i64 0, .slice none 0 0, .int .i64 0, .int .i64 0, .slice none 0 0] 28 (0, 0)) wn) := by rw [hb17]; exact Bx.new hwn hzx
       replace HX18 := hid (HX18.out.below hbn)
       replace R10 := hid ((hbn.block B10 (by omega)).trans R10.out)
       replace HEx := hid (HEx.out.on hbn)
       replace HBx := hid (HBx.out.trans (hbn.mono HBx.out.size))
       try replace HSO := hid (HSO.out.below hbn)
       try replace HKA := hid (HKA.out.keep (Below.keeps hbn) (fun _ _ h => h))
       try replace HSN := hid (HSN.out.below hbn)
       have hzn : L ≤ wn.heap.size := by have := hbn.size; omega
       refine hK.out _ _ ⟨R10.out, HBx.out⟩ ?_
       clear hK K hHeld hbn hzx hwn hb17
       intro hHeld
       walk_nrm
       try clear wx
       obtain ⟨wx, rfl⟩ : ∃ wx : World, wx = wn := ⟨_, rfl⟩
       have hzx := hzn
       clear hzn
       refine wpAnyL_two 5 12 (by kernel_rfl) ?_ ?_
       ·refine ComesUp.mk rfl (fun K hK => ?_)
        go_simp
        refine (request_is q0 q1 q2 q3 hq0 hq1 hq2 hq3 wx).mono ?_
        rintro e wn ⟨rq, ka, kc, rfl, hka, hrq, hbn⟩
        have HKA := hid hka
        have HRQ := hid hrq
        clear hka hrq
        replace HX17 := hid (HX17.out.below hbn)
        replace HX18 := hid (HX18.out.below hbn)
        replace R10 := hid ((hbn.block B10 (by omega)).trans R10.out)
        replace HEx := hid (HEx.out.on hbn)
        replace HBx := hid (HBx.out.trans (hbn.mono HBx.out.size))
        try replace HSO := hid (HSO.out.below hbn)
        try replace HKA := hid (HKA.out.keep (Below.keeps hbn) (fun _ _ h => h))
        have hzn : L ≤ wn.heap.size := by have := hbn.size; omega
        refine hK.out _ _ ⟨R10.out, HBx.out⟩ ?_
        clear hK K hHeld hbn hzx
        intro hHeld
        walk_nrm
        try clear wx
        obtain ⟨wx, rfl⟩ : ∃ wx : World, wx = wn := ⟨_, rfl⟩
        have hzx := hzn
        clear hzn
        refine wpAnyL_two 6 12 (by kernel_rfl) ?_ ?_
        ·refine ComesUp.mk rfl (fun K hK => ?_)
         go_simp
         obtain ⟨T, x, hd, hpl⟩ := HPL.out.do HRQ.out hjm
         have hsm := req8_small HRQ.out
         refine (do_at (s := Sk) (r := rq) (va := va) (vc := vc) (fa := fa) (fc := fc) (ka := ka) (kc := kc) HEx (hid HSO.out.at) HKA.out hsm.1 hsm.2 rfl rfl).mono ?_
         rw [hd]
         rintro e wn ⟨va', vc', fa', fc', ha', hc', rfl, hso, -, hbn⟩
         have HPT := hid hpl
         clear hd hpl hsm HKA HRQ
         obtain ⟨bn, hbs'⟩ : ∃ b, b = wx.heap.size := ⟨_, rfl⟩
         rw [← hbs'] at hso
         have HSN := hid hso
         have hbn1 : B10 < bn := by omega
         clear hso hbs'
         replace HX17 := hid (HX17.out.below hbn)
         replace HX18 := hid (HX18.out.below hbn)
         replace R10 := hid ((hbn.block B10 (by omega)).trans R10.out)
         replace HEx := hid (HEx.out.on hbn)
         replace HBx := hid (HBx.out.trans (hbn.mono HBx.out.size))
         have hzn : L ≤ wn.heap.size := by have := hbn.size; omega
         clear HSO
         refine hK.out _ _ ⟨R10.out, HBx.out⟩ ?_
         clear hK K hHeld hbn hzx 
         intro hHeld
         walk_nrm
         refine wpAnyL_take (i := 7) (v := ?_) rfl (by kernel_rfl) (fun _ _ _ h => h) (Or.inl ⟨by rfl, ?_⟩) (by assumption) ?_
         rotate_left
         ·intro wS hSw; go_simp <;> with_reducible rfl
         walk_nrm
         refine wpAnyL_take (i := 8) (v := ?_) rfl (by kernel_rfl) (fun _ _ _ h => h) (Or.inl ⟨by rfl, ?_⟩) (by assumption) ?_
         rotate_left
         ·intro wS hSw; go_simp <;> with_reducible rfl
         walk_nrm
         refine wpAnyL_take (i := 9) (v := ?_) rfl (by kernel_rfl) (fun _ _ _ h => h) (Or.inl ⟨by rfl, ?_⟩) (by assumption) ?_
         rotate_left
         ·intro wS hSw; go_simp <;> with_reducible rfl
         walk_nrm
         refine wpAnyL_take (i := 10) (v := ?_) rfl (by kernel_rfl) (fun _ _ _ h => h) (Or.inl ⟨by rfl, ?_⟩) (by assumption) ?_
         rotate_left
         ·intro wS hSw; go_simp <;> with_reducible rfl
         walk_nrm
         try clear wx
         obtain ⟨wx, rfl⟩ : ∃ wx : World, wx = wn := ⟨_, rfl⟩
         have hzx := hzn
         clear hzn
         refine wpAnyL_one 12 (by kernel_rfl) ?_
         ·refine ComesUp.mk rfl (fun K hK => ?_)
          go_simp
          obtain ⟨wn, hwn⟩ : ∃ wn, wn = wx.alloc (.cells #[.int .i64 0, .int .i64 0, .slice none 0 0] 35) := ⟨_, rfl⟩
          obtain ⟨b18, hb18⟩ : ∃ b, b = wx.heap.size := ⟨_, rfl⟩
          rw [← hwn, ← hb18]
          have hbn := below_new hwn
          replace HX17 := hid (HX17.out.below hbn)
          replace HX18 : Hid (Bx L (some b18) (.cells #[.int .i64 0, .int .i64 0, .slice none 0 0] 35 (0, 0)) wn) := by rw [hb18]; exact Bx.new hwn hzx
          replace R10 := hid ((hbn.block B10 (by omega)).trans R10.out)
          replace HEx := hid (HEx.out.on hbn)
          replace HBx := hid (HBx.out.trans (hbn.mono HBx.out.size))
          try replace HSO := hid (HSO.out.below hbn)
          try replace HKA := hid (HKA.out.keep (Below.keeps hbn) (fun _ _ h => h))
          try replace HSN := hid (HSN.out.below hbn)
          have hzn : L ≤ wn.heap.size := by have := hbn.size; omega
          refine hK.out _ _ ⟨R10.out, HBx.out⟩ ?_
          clear hK K hHeld hbn hzx hwn hb18
          intro hHeld
          walk_nrm
          try clear wx
          obtain ⟨wx, rfl⟩ : ∃ wx : World, wx = wn := ⟨_, rfl⟩
          have hzx := hzn
          clear hzn
          revert hHeld
          revert hzx
          revert HSN
          revert hbn1
          revert R10
          revert HBx
          revert HEx
          revert HX17
          revert HX18
          revert HPT
          revert hc'
          revert ha'
          revert x
          revert T
          revert kc
          revert ka
          revert rq
          revert fc'
          revert vc'
          revert fa'
          revert va'
          revert bn
          revert b18
          revert b17
          revert wx
          exact key trivial
        ·refine ComesUp.mk rfl (fun K hK => ?_)
         go_simp
         obtain ⟨wn, hwn⟩ : ∃ wn, wn = wx.alloc (.cells #[.int .i64 0, .int .i64 0, .slice none 0 0] 35) := ⟨_, rfl⟩
         obtain ⟨b18, hb18⟩ : ∃ b, b = wx.heap.size := ⟨_, rfl⟩
         rw [← hwn, ← hb18]
         have hbn := below_new hwn
         replace HX17 := hid (HX17.out.below hbn)
         replace HX18 : Hid (Bx L (some b18) (.cells #[.int .i64 0, .int .i64 0, .slice none 0 0] 35 (0, 0)) wn) := by rw [hb18]; exact Bx.new hwn hzx
         replace R10 := hid ((hbn.block B10 (by omega)).trans R10.out)
         replace HEx := hid (HEx.out.on hbn)
         replace HBx := hid (HBx.out.trans (hbn.mono HBx.out.size))
         try replace HSO := hid (HSO.out.below hbn)
         try replace HKA := hid (HKA.out.keep (Below.keeps hbn) (fun _ _ h => h))
         try replace HSN := hid (HSN.out.below hbn)
         have hzn : L ≤ wn.heap.size := by have := hbn.size; omega
         refine hK.out _ _ ⟨R10.out, HBx.out⟩ ?_
         clear hK K hHeld hbn hzx hwn hb18
         intro hHeld
         walk_nrm
         try clear wx
         obtain ⟨wx, rfl⟩ : ∃ wx : World, wx = wn := ⟨_, rfl⟩
         have hzx := hzn
         clear hzn
         refine wpAnyL_one 6 (by kernel_rfl) ?_
         ·refine ComesUp.mk rfl (fun K hK => ?_)
          go_simp
          obtain ⟨T, x, hd, hpl⟩ := HPL.out.do HRQ.out hjm
          have hsm := req8_small HRQ.out
          refine (do_at (s := Sk) (r := rq) (va := va) (vc := vc) (fa := fa) (fc := fc) (ka := ka) (kc := kc) HEx (hid HSO.out.at) HKA.out hsm.1 hsm.2 rfl rfl).mono ?_
          rw [hd]
          rintro e wn ⟨va', vc', fa', fc', ha', hc', rfl, hso, -, hbn⟩
          have HPT := hid hpl
          clear hd hpl hsm HKA HRQ
          obtain ⟨bn, hbs'⟩ : ∃ b, b = wx.heap.size := ⟨_, rfl⟩
          rw [← hbs'] at hso
          have HSN := hid hso
          have hbn1 : B10 < bn := by omega
          clear hso hbs'
          replace HX17 := hid (HX17.out.below hbn)
          replace HX18 := hid (HX18.out.below hbn)
          replace R10 := hid ((hbn.block B10 (by omega)).trans R10.out)
          replace HEx := hid (HEx.out.on hbn)
          replace HBx := hid (HBx.out.trans (hbn.mono HBx.out.size))
          have hzn : L ≤ wn.heap.size := by have := hbn.size; omega
          clear HSO
          refine hK.out _ _ ⟨R10.out, HBx.out⟩ ?_
          clear hK K hHeld hbn hzx 
          intro hHeld
          walk_nrm
          refine wpAnyL_take (i := 7) (v := ?_) rfl (by kernel_rfl) (fun _ _ _ h => h) (Or.inl ⟨by rfl, ?_⟩) (by assumption) ?_
          rotate_left
          ·intro wS hSw; go_simp <;> with_reducible rfl
          walk_nrm
          refine wpAnyL_take (i := 8) (v := ?_) rfl (by kernel_rfl) (fun _ _ _ h => h) (Or.inl ⟨by rfl, ?_⟩) (by assumption) ?_
          rotate_left
          ·intro wS hSw; go_simp <;> with_reducible rfl
          walk_nrm
          refine wpAnyL_take (i := 9) (v := ?_) rfl (by kernel_rfl) (fun _ _ _ h => h) (Or.inl ⟨by rfl, ?_⟩) (by assumption) ?_
          rotate_left
          ·intro wS hSw; go_simp <;> with_reducible rfl
          walk_nrm
          refine wpAnyL_take (i := 10) (v := ?_) rfl (by kernel_rfl) (fun _ _ _ h => h) (Or.inl ⟨by rfl, ?_⟩) (by assumption) ?_
          rotate_left
          ·intro wS hSw; go_simp <;> with_reducible rfl
          walk_nrm
          try clear wx
          obtain ⟨wx, rfl⟩ : ∃ wx : World, wx = wn := ⟨_, rfl⟩
          have hzx := hzn
          clear hzn
          revert hHeld
          revert hzx
          revert HSN
          revert hbn1
          revert R10
          revert HBx
          revert HEx
          revert HX17
          revert HX18
          revert HPT
          revert hc'
          revert ha'
          revert x
          revert T
          revert kc
          revert ka
          revert rq
          revert fc'
          revert vc'
          revert fa'
          revert va'
          revert bn
          revert b18
          revert b17
          revert wx
          exact key trivial
       ·refine ComesUp.mk rfl (fun K hK => ?_)
        go_simp
        obtain ⟨wn, hwn⟩ : ∃ wn, wn = wx.alloc (.cells #[.int .i64 0, .int .i64 0, .slice none 0 0] 35) := ⟨_, rfl⟩
        obtain ⟨b18, hb18⟩ : ∃ b, b = wx.heap.size := ⟨_, rfl⟩
        rw [← hwn, ← hb18]
        have hbn := below_new hwn
        replace HX17 := hid (HX17.out.below hbn)
        replace HX18 : Hid (Bx L (some b18) (.cells #[.int .i64 0, .int .i64 0, .slice none 0 0] 35 (0, 0)) wn) := by rw [hb18]; exact Bx.new hwn hzx
        replace R10 := hid ((hbn.block B10 (by omega)).trans R10.out)
        replace HEx := hid (HEx.out.on hbn)
        replace HBx := hid (HBx.out.trans (hbn.mono HBx.out.size))
        try replace HSO := hid (HSO.out.below hbn)
        try replace HKA := hid (HKA.out.keep (Below.keeps hbn) (fun _ _ h => h))
        try replace HSN := hid (HSN.out.below hbn)
        have hzn : L ≤ wn.heap.size := by have := hbn.size; omega
        refine hK.out _ _ ⟨R10.out, HBx.out⟩ ?_
        clear hK K hHeld hbn hzx hwn hb18
        intro hHeld
        walk_nrm
        try clear wx
        obtain ⟨wx, rfl⟩ : ∃ wx : World, wx = wn := ⟨_, rfl⟩
        have hzx := hzn
        clear hzn
        refine wpAnyL_one 5 (by kernel_rfl) ?_
        ·refine ComesUp.mk rfl (fun K hK => ?_)
         go_simp
         refine (request_is q0 q1 q2 q3 hq0 hq1 hq2 hq3 wx).mono ?_
         rintro e wn ⟨rq, ka, kc, rfl, hka, hrq, hbn⟩
         have HKA := hid hka
         have HRQ := hid hrq
         clear hka hrq
         replace HX17 := hid (HX17.out.below hbn)
         replace HX18 := hid (HX18.out.below hbn)
         replace R10 := hid ((hbn.block B10 (by omega)).trans R10.out)
         replace HEx := hid (HEx.out.on hbn)
         replace HBx := hid (HBx.out.trans (hbn.mono HBx.out.size))
         try replace HSO := hid (HSO.out.below hbn)
         try replace HKA := hid (HKA.out.keep (Below.keeps hbn) (fun _ _ h => h))
         have hzn : L ≤ wn.heap.size := by have := hbn.size; omega
         refine hK.out _ _ ⟨R10.out, HBx.out⟩ ?_
         clear hK K hHeld hbn hzx
         intro hHeld
         walk_nrm
         try clear wx
         obtain ⟨wx, rfl⟩ : ∃ wx : World, wx = wn := ⟨_, rfl⟩
         have hzx := hzn
         clear hzn
         refine wpAnyL_one 6 (by kernel_rfl) ?_
         ·refine ComesUp.mk rfl (fun K hK => ?_)
          go_simp
          obtain ⟨T, x, hd, hpl⟩ := HPL.out.do HRQ.out hjm
          have hsm := req8_small HRQ.out
          refine (do_at (s := Sk) (r := rq) (va := va) (vc := vc) (fa := fa) (fc := fc) (ka := ka) (kc := kc) HEx (hid HSO.out.at) HKA.out hsm.1 hsm.2 rfl rfl).mono ?_
          rw [hd]
          rintro e wn ⟨va', vc', fa', fc', ha', hc', rfl, hso, -, hbn⟩
          have HPT := hid hpl
          clear hd hpl hsm HKA HRQ
          obtain ⟨bn, hbs'⟩ : ∃ b, b = wx.heap.size := ⟨_, rfl⟩
          rw [← hbs'] at hso
          have HSN := hid hso
          have hbn1 : B10 < bn := by omega
          clear hso hbs'
          replace HX17 := hid (HX17.out.below hbn)
          replace HX18 := hid (HX18.out.below hbn)
          replace R10 := hid ((hbn.block B10 (by omega)).trans R10.out)
          replace HEx := hid (HEx.out.on hbn)
          replace HBx := hid (HBx.out.trans (hbn.mono HBx.out.size))
          have hzn : L ≤ wn.heap.size := by have := hbn.size; omega
          clear HSO
          refine hK.out _ _ ⟨R10.out, HBx.out⟩ ?_
          clear hK K hHeld hbn hzx 
          intro hHeld
          walk_nrm
          refine wpAnyL_take (i := 7) (v := ?_) rfl (by kernel_rfl) (fun _ _ _ h => h) (Or.inl ⟨by rfl, ?_⟩) (by assumption) ?_
          rotate_left
          ·intro wS hSw; go_simp <;> with_reducible rfl
          walk_nrm
          refine wpAnyL_take (i := 8) (v := ?_) rfl (by kernel_rfl) (fun _ _ _ h => h) (Or.inl ⟨by rfl, ?_⟩) (by assumption) ?_
          rotate_left
          ·intro wS hSw; go_simp <;> with_reducible rfl
          walk_nrm
          refine wpAnyL_take (i := 9) (v := ?_) rfl (by kernel_rfl) (fun _ _ _ h => h) (Or.inl ⟨by rfl, ?_⟩) (by assumption) ?_
          rotate_left
          ·intro wS hSw; go_simp <;> with_reducible rfl
          walk_nrm
          refine wpAnyL_take (i := 10) (v := ?_) rfl (by kernel_rfl) (fun _ _ _ h => h) (Or.inl ⟨by rfl, ?_⟩) (by assumption) ?_
          rotate_left
          ·intro wS hSw; go_simp <;> with_reducible rfl
          walk_nrm
          try clear wx
          obtain ⟨wx, rfl⟩ : ∃ wx : World, wx = wn := ⟨_, rfl⟩
          have hzx := hzn
          clear hzn
          revert hHeld
          revert hzx
          revert HSN
          revert hbn1
          revert R10
          revert HBx
          revert HEx
          revert HX17
          revert HX18
          revert HPT
          revert hc'
          revert ha'
          revert x
          revert T
          revert kc
          revert ka
          revert rq
          revert fc'
          revert vc'
          revert fa'
          revert va'
          revert bn
          revert b18
          revert b17
          revert wx
          exact key trivial
      ·refine ComesUp.mk rfl (fun K hK => ?_)
       go_simp
       obtain ⟨wn, hwn⟩ : ∃ wn, wn = wx.alloc (.cells #[.int .i64 0, .int .i64 0, .slice none 0 0] 35) := ⟨_, rfl⟩
       obtain ⟨b18, hb18⟩ : ∃ b, b = wx.heap.size := ⟨_, rfl⟩
       rw [← hwn, ← hb18]
       have hbn := below_new hwn
       replace HX17 := hid (HX17.out.below hbn)
       replace HX18 : Hid (Bx L (some b18) (.cells #[.int .i64 0, .int .i64 0, .slice none 0 0] 35 (0, 0)) wn) := by rw [hb18]; exact Bx.new hwn hzx
       replace R10 := hid ((hbn.block B10 (by omega)).trans R10.out)
       replace HEx := hid (HEx.out.on hbn)
       replace HBx := hid (HBx.out.trans (hbn.mono HBx.out.size))
       try replace HSO := hid (HSO.out.below hbn)
       try replace HKA := hid (HKA.out.keep (Below.keeps hbn) (fun _ _ h => h))
       try replace HSN := hid (HSN.out.below hbn)
       have hzn : L ≤ wn.heap.size := by have := hbn.size; omega
       refine hK.out _ _ ⟨R10.out, HBx.out⟩ ?_
       clear hK K hHeld hbn hzx hwn hb18
       intro hHeld
       walk_nrm
       try clear wx
       obtain ⟨wx, rfl⟩ : ∃ wx : World, wx = wn := ⟨_, rfl⟩
       have hzx := hzn
       clear hzn
       refine wpAnyL_two 5 11 (by kernel_rfl) ?_ ?_
       ·refine ComesUp.mk rfl (fun K hK => ?_)
        go_simp
        refine (request_is q0 q1 q2 q3 hq0 hq1 hq2 hq3 wx).mono ?_
        rintro e wn ⟨rq, ka, kc, rfl, hka, hrq, hbn⟩
        have HKA := hid hka
        have HRQ := hid hrq
        clear hka hrq
        replace HX17 := hid (HX17.out.below hbn)
        replace HX18 := hid (HX18.out.below hbn)
        replace R10 := hid ((hbn.block B10 (by omega)).trans R10.out)
        replace HEx := hid (HEx.out.on hbn)
        replace HBx := hid (HBx.out.trans (hbn.mono HBx.out.size))
        try replace HSO := hid (HSO.out.below hbn)
        try replace HKA := hid (HKA.out.keep (Below.keeps hbn) (fun _ _ h => h))
        have hzn : L ≤ wn.heap.size := by have := hbn.size; omega
        refine hK.out _ _ ⟨R10.out, HBx.out⟩ ?_
        clear hK K hHeld hbn hzx
        intro hHeld
        walk_nrm
        try clear wx
        obtain ⟨wx, rfl⟩ : ∃ wx : World, wx = wn := ⟨_, rfl⟩
        have hzx := hzn
        clear hzn
        refine wpAnyL_two 6 11 (by kernel_rfl) ?_ ?_
        ·refine ComesUp.mk rfl (fun K hK => ?_)
         go_simp
         obtain ⟨T, x, hd, hpl⟩ := HPL.out.do HRQ.out hjm
         have hsm := req8_small HRQ.out
         refine (do_at (s := Sk) (r := rq) (va := va) (vc := vc) (fa := fa) (fc := fc) (ka := ka) (kc := kc) HEx (hid HSO.out.at) HKA.out hsm.1 hsm.2 rfl rfl).mono ?_
         rw [hd]
         rintro e wn ⟨va', vc', fa', fc', ha', hc', rfl, hso, -, hbn⟩
         have HPT := hid hpl
         clear hd hpl hsm HKA HRQ
         obtain ⟨bn, hbs'⟩ : ∃ b, b = wx.heap.size := ⟨_, rfl⟩
         rw [← hbs'] at hso
         have HSN := hid hso
         have hbn1 : B10 < bn := by omega
         clear hso hbs'
         replace HX17 := hid (HX17.out.below hbn)
         replace HX18 := hid (HX18.out.below hbn)
         replace R10 := hid ((hbn.block B10 (by omega)).trans R10.out)
         replace HEx := hid (HEx.out.on hbn)
         replace HBx := hid (HBx.out.trans (hbn.mono HBx.out.size))
         have hzn : L ≤ wn.heap.size := by have := hbn.size; omega
         clear HSO
         refine hK.out _ _ ⟨R10.out, HBx.out⟩ ?_
         clear hK K hHeld hbn hzx 
         intro hHeld
         walk_nrm
         refine wpAnyL_take (i := 7) (v := ?_) rfl (by kernel_rfl) (fun _ _ _ h => h) (Or.inl ⟨by rfl, ?_⟩) (by assumption) ?_
         rotate_left
         ·intro wS hSw; go_simp <;> with_reducible rfl
         walk_nrm
         refine wpAnyL_take (i := 8) (v := ?_) rfl (by kernel_rfl) (fun _ _ _ h => h) (Or.inl ⟨by rfl, ?_⟩) (by assumption) ?_
         rotate_left
         ·intro wS hSw; go_simp <;> with_reducible rfl
         walk_nrm
         refine wpAnyL_take (i := 9) (v := ?_) rfl (by kernel_rfl) (fun _ _ _ h => h) (Or.inl ⟨by rfl, ?_⟩) (by assumption) ?_
         rotate_left
         ·intro wS hSw; go_simp <;> with_reducible rfl
         walk_nrm
         refine wpAnyL_take (i := 10) (v := ?_) rfl (by kernel_rfl) (fun _ _ _ h => h) (Or.inl ⟨by rfl, ?_⟩) (by assumption) ?_
         rotate_left
         ·intro wS hSw; go_simp <;> with_reducible rfl
         walk_nrm
         try clear wx
         obtain ⟨wx, rfl⟩ : ∃ wx : World, wx = wn := ⟨_, rfl⟩
         have hzx := hzn
         clear hzn
         refine wpAnyL_one 11 (by kernel_rfl) ?_
         ·refine ComesUp.mk rfl (fun K hK => ?_)
          go_simp
          obtain ⟨wn, hwn⟩ : ∃ wn, wn = wx.alloc (.cells #[.int .i64 0, .int .i64 0, .int .i64 0, .int .i64 0, .int .i64 0, .int .i64 0, .int .i64 0, .int .i64 0, .slice none 0 0, .int .i64 0, .int .i64 0, .slice none 0 0] 28) := ⟨_, rfl⟩
          obtain ⟨b17, hb17⟩ : ∃ b, b = wx.heap.size := ⟨_, rfl⟩
          rw [← hwn, ← hb17]
          have hbn := below_new hwn
          replace HX17 : Hid (Bx L (some b17) (.cells #[.int .i64 0, .int .i64 0, .int .i64 0, .int .i64 0, .int .i64 0, .int .i64 0, .int .i64 0, .int .i64 0, .slice none 0 0, .int .i64 0, .int .i64 0, .slice none 0 0] 28 (0, 0)) wn) := by rw [hb17]; exact Bx.new hwn hzx
          replace HX18 := hid (HX18.out.below hbn)
          replace R10 := hid ((hbn.block B10 (by omega)).trans R10.out)
          replace HEx := hid (HEx.out.on hbn)
          replace HBx := hid (HBx.out.trans (hbn.mono HBx.out.size))
          try replace HSO := hid (HSO.out.below hbn)
          try replace HKA := hid (HKA.out.keep (Below.keeps hbn) (fun _ _ h => h))
          try replace HSN := hid (HSN.out.below hbn)
          have hzn : L ≤ wn.heap.size := by have := hbn.size; omega
          refine hK.out _ _ ⟨R10.out, HBx.out⟩ ?_
          clear hK K hHeld hbn hzx hwn hb17
          intro hHeld
          walk_nrm
          try clear wx
          obtain ⟨wx, rfl⟩ : ∃ wx : World, wx = wn := ⟨_, rfl⟩
          have hzx := hzn
          clear hzn
          revert hHeld
          revert hzx
          revert HSN
          revert hbn1
          revert R10
          revert HBx
          revert HEx
          revert HX17
          revert HX18
          revert HPT
          revert hc'
          revert ha'
          revert x
          revert T
          revert kc
          revert ka
          revert rq
          revert fc'
          revert vc'
          revert fa'
          revert va'
          revert bn
          revert b18
          revert b17
          revert wx
          exact key trivial
        ·refine ComesUp.mk rfl (fun K hK => ?_)
         go_simp
         obtain ⟨wn, hwn⟩ : ∃ wn, wn = wx.alloc (.cells #[.int .i64 0, .int .i64 0, .int .i64 0, .int .i64 0, .int .i64 0, .int .i64 0, .int .i64 0, .int .i64 0, .slice none 0 0, .int .i64 0, .int .i64 0, .slice none 0 0] 28) := ⟨_, rfl⟩
         obtain ⟨b17, hb17⟩ : ∃ b, b = wx.heap.size := ⟨_, rfl⟩
         rw [← hwn, ← hb17]
         have hbn := below_new hwn
         replace HX17 : Hid (Bx L (some b17) (.cells #[.int .i64 0, .int .i64 0, .int .i64 0, .int .i64 0, .int .i64 0, .int .i64 0, .int .i64 0, .int .i64 0, .slice none 0 0, .int .i64 0, .int .i64 0, .slice none 0 0] 28 (0, 0)) wn) := by rw [hb17]; exact Bx.new hwn hzx
         replace HX18 := hid (HX18.out.below hbn)
         replace R10 := hid ((hbn.block B10 (by omega)).trans R10.out)
         replace HEx := hid (HEx.out.on hbn)
         replace HBx := hid (HBx.out.trans (hbn.mono HBx.out.size))
         try replace HSO := hid (HSO.out.below hbn)
         try replace HKA := hid (HKA.out.keep (Below.keeps hbn) (fun _ _ h => h))
         try replace HSN := hid (HSN.out.below hbn)
         have hzn : L ≤ wn.heap.size := by have := hbn.size; omega
         refine hK.out _ _ ⟨R10.out, HBx.out⟩ ?_
         clear hK K hHeld hbn hzx hwn hb17
         intro hHeld
         walk_nrm
         try clear wx
         obtain ⟨wx, rfl⟩ : ∃ wx : World, wx = wn := ⟨_, rfl⟩
         have hzx := hzn
         clear hzn
         refine wpAnyL_one 6 (by kernel_rfl) ?_
         ·refine ComesUp.mk rfl (fun K hK => ?_)
          go_simp
          obtain ⟨T, x, hd, hpl⟩ := HPL.out.do HRQ.out hjm
          have hsm := req8_small HRQ.out
          refine (do_at (s := Sk) (r := rq) (va := va) (vc := vc) (fa := fa) (fc := fc) (ka := ka) (kc := kc) HEx (hid HSO.out.at) HKA.out hsm.1 hsm.2 rfl rfl).mono ?_
          rw [hd]
          rintro e wn ⟨va', vc', fa', fc', ha', hc', rfl, hso, -, hbn⟩
          have HPT := hid hpl
          clear hd hpl hsm HKA HRQ
          obtain ⟨bn, hbs'⟩ : ∃ b, b = wx.heap.size := ⟨_, rfl⟩
          rw [← hbs'] at hso
          have HSN := hid hso
          have hbn1 : B10 < bn := by omega
          clear hso hbs'
          replace HX17 := hid (HX17.out.below hbn)
          replace HX18 := hid (HX18.out.below hbn)
          replace R10 := hid ((hbn.block B10 (by omega)).trans R10.out)
          replace HEx := hid (HEx.out.on hbn)
          replace HBx := hid (HBx.out.trans (hbn.mono HBx.out.size))
          have hzn : L ≤ wn.heap.size := by have := hbn.size; omega
          clear HSO
          refine hK.out _ _ ⟨R10.out, HBx.out⟩ ?_
          clear hK K hHeld hbn hzx 
          intro hHeld
          walk_nrm
          refine wpAnyL_take (i := 7) (v := ?_) rfl (by kernel_rfl) (fun _ _ _ h => h) (Or.inl ⟨by rfl, ?_⟩) (by assumption) ?_
          rotate_left
          ·intro wS hSw; go_simp <;> with_reducible rfl
          walk_nrm
          refine wpAnyL_take (i := 8) (v := ?_) rfl (by kernel_rfl) (fun _ _ _ h => h) (Or.inl ⟨by rfl, ?_⟩) (by assumption) ?_
          rotate_left
          ·intro wS hSw; go_simp <;> with_reducible rfl
          walk_nrm
          refine wpAnyL_take (i := 9) (v := ?_) rfl (by kernel_rfl) (fun _ _ _ h => h) (Or.inl ⟨by rfl, ?_⟩) (by assumption) ?_
          rotate_left
          ·intro wS hSw; go_simp <;> with_reducible rfl
          walk_nrm
          refine wpAnyL_take (i := 10) (v := ?_) rfl (by kernel_rfl) (fun _ _ _ h => h) (Or.inl ⟨by rfl, ?_⟩) (by assumption) ?_
          rotate_left
          ·intro wS hSw; go_simp <;> with_reducible rfl
          walk_nrm
          try clear wx
          obtain ⟨wx, rfl⟩ : ∃ wx : World, wx = wn := ⟨_, rfl⟩
          have hzx := hzn
          clear hzn
          revert hHeld
          revert hzx
          revert HSN
          revert hbn1
          revert R10
          revert HBx
          revert HEx
          revert HX17
          revert HX18
          revert HPT
          revert hc'
          revert ha'
          revert x
          revert T
          revert kc
          revert ka
          revert rq
          revert fc'
          revert vc'
          revert fa'
          revert va'
          revert bn
          revert b18
          revert b17
          revert wx
          exact key trivial
       ·refine ComesUp.mk rfl (fun K hK => ?_)
        go_simp
        obtain ⟨wn, hwn⟩ : ∃ wn, wn = wx.alloc (.cells #[.int .i64 0, .int .i64 0, .int .i64 0, .int .i64 0, .int .i64 0, .int .i64 0, .int .i64 0, .int .i64 0, .slice none 0 0, .int .i64 0, .int .i64 0, .slice none 0 0] 28) := ⟨_, rfl⟩
        obtain ⟨b17, hb17⟩ : ∃ b, b = wx.heap.size := ⟨_, rfl⟩
        rw [← hwn, ← hb17]
        have hbn := below_new hwn
        replace HX17 : Hid (Bx L (some b17) (.cells #[.int .i64 0, .int .i64 0, .int .i64 0, .int .i64 0, .int .i64 0, .int .i64 0, .int .i64 0, .int .i64 0, .slice none 0 0, .int .i64 0, .int .i64 0, .slice none 0 0] 28 (0, 0)) wn) := by rw [hb17]; exact Bx.new hwn hzx
        replace HX18 := hid (HX18.out.below hbn)
        replace R10 := hid ((hbn.block B10 (by omega)).trans R10.out)
        replace HEx := hid (HEx.out.on hbn)
        replace HBx := hid (HBx.out.trans (hbn.mono HBx.out.size))
        try replace HSO := hid (HSO.out.below hbn)
        try replace HKA := hid (HKA.out.keep (Below.keeps hbn) (fun _ _ h => h))
        try replace HSN := hid (HSN.out.below hbn)
        have hzn : L ≤ wn.heap.size := by have := hbn.size; omega
        refine hK.out _ _ ⟨R10.out, HBx.out⟩ ?_
        clear hK K hHeld hbn hzx hwn hb17
        intro hHeld
        walk_nrm
        try clear wx
        obtain ⟨wx, rfl⟩ : ∃ wx : World, wx = wn := ⟨_, rfl⟩
        have hzx := hzn
        clear hzn
        refine wpAnyL_one 5 (by kernel_rfl) ?_
        ·refine ComesUp.mk rfl (fun K hK => ?_)
         go_simp
         refine (request_is q0 q1 q2 q3 hq0 hq1 hq2 hq3 wx).mono ?_
         rintro e wn ⟨rq, ka, kc, rfl, hka, hrq, hbn⟩
         have HKA := hid hka
         have HRQ := hid hrq
         clear hka hrq
         replace HX17 := hid (HX17.out.below hbn)
         replace HX18 := hid (HX18.out.below hbn)
         replace R10 := hid ((hbn.block B10 (by omega)).trans R10.out)
         replace HEx := hid (HEx.out.on hbn)
         replace HBx := hid (HBx.out.trans (hbn.mono HBx.out.size))
         try replace HSO := hid (HSO.out.below hbn)
         try replace HKA := hid (HKA.out.keep (Below.keeps hbn) (fun _ _ h => h))
         have hzn : L ≤ wn.heap.size := by have := hbn.size; omega
         refine hK.out _ _ ⟨R10.out, HBx.out⟩ ?_
         clear hK K hHeld hbn hzx
         intro hHeld
         walk_nrm
         try clear wx
         obtain ⟨wx, rfl⟩ : ∃ wx : World, wx = wn := ⟨_, rfl⟩
         have hzx := hzn
         clear hzn
         refine wpAnyL_one 6 (by kernel_rfl) ?_
         ·refine ComesUp.mk rfl (fun K hK => ?_)
          go_simp
          obtain ⟨T, x, hd, hpl⟩ := HPL.out.do HRQ.out hjm
          have hsm := req8_small HRQ.out
          refine (do_at (s := Sk) (r := rq) (va := va) (vc := vc) (fa := fa) (fc := fc) (ka := ka) (kc := kc) HEx (hid HSO.out.at) HKA.out hsm.1 hsm.2 rfl rfl).mono ?_
          rw [hd]
          rintro e wn ⟨va', vc', fa', fc', ha', hc', rfl, hso, -, hbn⟩
          have HPT := hid hpl
          clear hd hpl hsm HKA HRQ
          obtain ⟨bn, hbs'⟩ : ∃ b, b = wx.heap.size := ⟨_, rfl⟩
          rw [← hbs'] at hso
          have HSN := hid hso
          have hbn1 : B10 < bn := by omega
          clear hso hbs'
          replace HX17 := hid (HX17.out.below hbn)
          replace HX18 := hid (HX18.out.below hbn)
          replace R10 := hid ((hbn.block B10 (by omega)).trans R10.out)
          replace HEx := hid (HEx.out.on hbn)
          replace HBx := hid (HBx.out.trans (hbn.mono HBx.out.size))
          have hzn : L ≤ wn.heap.size := by have := hbn.size; omega
          clear HSO
          refine hK.out _ _ ⟨R10.out, HBx.out⟩ ?_
          clear hK K hHeld hbn hzx 
          intro hHeld
          walk_nrm
          refine wpAnyL_take (i := 7) (v := ?_) rfl (by kernel_rfl) (fun _ _ _ h => h) (Or.inl ⟨by rfl, ?_⟩) (by assumption) ?_
          rotate_left
          ·intro wS hSw; go_simp <;> with_reducible rfl
          walk_nrm
          refine wpAnyL_take (i := 8) (v := ?_) rfl (by kernel_rfl) (fun _ _ _ h => h) (Or.inl ⟨by rfl, ?_⟩) (by assumption) ?_
          rotate_left
          ·intro wS hSw; go_simp <;> with_reducible rfl
          walk_nrm
          refine wpAnyL_take (i := 9) (v := ?_) rfl (by kernel_rfl) (fun _ _ _ h => h) (Or.inl ⟨by rfl, ?_⟩) (by assumption) ?_
          rotate_left
          ·intro wS hSw; go_simp <;> with_reducible rfl
          walk_nrm
          refine wpAnyL_take (i := 10) (v := ?_) rfl (by kernel_rfl) (fun _ _ _ h => h) (Or.inl ⟨by rfl, ?_⟩) (by assumption) ?_
          rotate_left
          ·intro wS hSw; go_simp <;> with_reducible rfl
          walk_nrm
          try clear wx
          obtain ⟨wx, rfl⟩ : ∃ wx : World, wx = wn := ⟨_, rfl⟩
          have hzx := hzn
          clear hzn
          revert hHeld
          revert hzx
          revert HSN
          revert hbn1
          revert R10
          revert HBx
          revert HEx
          revert HX17
          revert HX18
          revert HPT
          revert hc'
          revert ha'
          revert x
          revert T
          revert kc
          revert ka
          revert rq
          revert fc'
          revert vc'
          revert fa'
          revert va'
          revert bn
          revert b18
          revert b17
          revert wx
          exact key trivial
     ·intro wx b17 b18 bn va' fa' vc' fc' rq ka kc T x ha' hc' HPT HX18 HX17 HEx HBx R10 hbn1 HSN hzx hHeld
      refine wpAnyL_one 13 (by kernel_rfl) ?_
      refine ComesUp.mk rfl (fun K hK => ?_)
      rw [if_pos (by rfl)]
      have h17 := HX17.out b17 rfl
      refine wp_store_row 28 _ _ rfl b17 _ rfl rfl _ _ h17.2 storeSize rfl (store_one _ _ _ _ _) ?_
      have n17 : b17 ≠ B10 := by omega
      obtain ⟨wn, hwn⟩ : ∃ wn, wn = wx.setRow b17 (storeV (T) va' vc' fa' fc') := ⟨_, rfl⟩
      rw [← hwn]
      replace HX17 : Hid (Bx L (some b17) (.cells (storeV (T) va' vc' fa' fc') 28 (0, 0)) wn) := fun b hb => by cases hb; exact ⟨h17.1, by rw [hwn]; exact setRow_heap _ _ _ _ _ _ h17.2⟩
      replace HX18 : Hid (Bx L (some b18) (.cells (#[.int .i64 0, .int .i64 0, .slice none 0 0]) 35 (0, 0)) wn) := fun b hb => by cases hb; exact ⟨(HX18.out b18 rfl).1, by rw [hwn]; exact (setRow_other _ _ _ _ (blk_ne (HX18.out b18 rfl).2 h17.2 (by decide))).trans (HX18.out b18 rfl).2⟩
      replace R10 : Hid (wn.heap[B10]? = some (.cells (storeV (Sk) va vc fa fc) 28 (0, 0))) := by show wn.heap[B10]? = _; rw [hwn]; exact (setRow_other _ _ _ _ (Ne.symm n17)).trans R10.out
      have hbn : Below WS.heap.size wx wn := by rw [hwn]; exact Below.setRow _ b17 _ (by omega)
      replace HSN : Hid (StOwn bn wn (T) va' vc' fa' fc') := by rw [hwn]; exact HSN.out.setT h17.2 (by decide) (by decide) (by decide)
      replace HEx := hid (HEx.out.below HES.out.globs hbn)
      replace HBx := hid (HBx.out.trans hbn)
      have hzn : L ≤ wn.heap.size := by have := hbn.size; omega
      refine hK.out _ _ ⟨R10.out, HBx.out⟩ ?_
      clear hK K hHeld hbn hzx hwn h17 n17
      intro hHeld
      walk_nrm
      try clear wx
      obtain ⟨wx, rfl⟩ : ∃ wx : World, wx = wn := ⟨_, rfl⟩
      have hzx := hzn
      clear hzn
      refine wpAnyL_one 14 (by kernel_rfl) ?_
      refine ComesUp.mk rfl (fun K hK => ?_)
      rw [if_pos (by rfl)]
      have h18 := HX18.out b18 rfl
      refine wp_store_row 35 _ _ rfl b18 _ rfl rfl _ _ h18.2 replySize rfl (reply_one _ _ _) ?_
      have n18 : b18 ≠ B10 := by omega
      obtain ⟨wn, hwn⟩ : ∃ wn, wn = wx.setRow b18 (replyCells x ha' hc') := ⟨_, rfl⟩
      rw [← hwn]
      replace HX17 : Hid (Bx L (some b17) (.cells (storeV (T) va' vc' fa' fc') 28 (0, 0)) wn) := fun b hb => by cases hb; exact ⟨(HX17.out b17 rfl).1, by rw [hwn]; exact (setRow_other _ _ _ _ (blk_ne (HX17.out b17 rfl).2 h18.2 (by decide))).trans (HX17.out b17 rfl).2⟩
      replace HX18 : Hid (Bx L (some b18) (.cells (replyCells x ha' hc') 35 (0, 0)) wn) := fun b hb => by cases hb; exact ⟨h18.1, by rw [hwn]; exact setRow_heap _ _ _ _ _ _ h18.2⟩
      replace R10 : Hid (wn.heap[B10]? = some (.cells (storeV (Sk) va vc fa fc) 28 (0, 0))) := by show wn.heap[B10]? = _; rw [hwn]; exact (setRow_other _ _ _ _ (Ne.symm n18)).trans R10.out
      have hbn : Below WS.heap.size wx wn := by rw [hwn]; exact Below.setRow _ b18 _ (by omega)
      replace HSN : Hid (StOwn bn wn (T) va' vc' fa' fc') := by rw [hwn]; exact HSN.out.setT h18.2 (by decide) (by decide) (by decide)
      replace HEx := hid (HEx.out.below HES.out.globs hbn)
      replace HBx := hid (HBx.out.trans hbn)
      have hzn : L ≤ wn.heap.size := by have := hbn.size; omega
      refine hK.out _ _ ⟨R10.out, HBx.out⟩ ?_
      clear hK K hHeld hbn hzx hwn h18 n18
      intro hHeld
      walk_nrm
      try clear wx
      obtain ⟨wx, rfl⟩ : ∃ wx : World, wx = wn := ⟨_, rfl⟩
      have hzx := hzn
      clear hzn
      refine wpAnyL_last rfl (by kernel_rfl) (fun K hK => ?_)
      go_simp
      refine hK.out _ _ ?_
      clear hK K
      walk_nrm
      refine wpAnyL_done (by kernel_rfl) ?_ _
      go_wp2_with fail
      go_meet
      rw [HWS.out] at HBx
      exact ⟨b17, b18, T, x, va', vc', fa', fc', ha', hc', bn, rfl, rfl, rfl, hbn1, (by have := (HX17.out b17 rfl).1; omega), (by omega), HPT, HBx, R10, HSN, (HX17.out b17 rfl).2, (HX18.out b18 rfl).2⟩
    case rest =>
     obtain ⟨B17, B18, T, x, va', vc', fa', fc', ha', hc', bn, rfl, rfl, rfl, hbn, n17, hzc, HPT, HBc, R10c, HSc, R17, R18⟩ := hcut
     have R8c := hid ((HBc.out.block B8 (blt R8.out)).trans R8.out)
     have HOWc := hid (owns_keptT HOW.out (KeptT.below (P := fun _ => True) HBc.out) trivial)
     have HBWc := hid (HBW.out.trans (HBc.out.mono HBW.out.size))
     have n18 : B18 ≠ B10 := blk_ne R18.out R10c.out (by decide)
     clear HBc R8 HOW HBW R10 HSO HPL hbs hzr
     go_upto_region 15 with (first
      | refine wpList_load_row rfl 28 _ rfl B17 rfl _ _ _ _ R17.out Tryz.underlying28 rfl (by kernel_rfl) ?_
      | refine wpList_store_row rfl 28 _ _ rfl B10 _ rfl rfl _ _ R10c.out storeSize rfl (store_one _ _ _ _ _) ?_)
     obtain ⟨wn, hwn⟩ : ∃ wn, wn = wc.setRow B10 (storeV T va' vc' fa' fc') := ⟨_, rfl⟩
     rw [← hwn]
     have F1 : Hid (wn.heap[B10]? = some (.cells (storeV T va' vc' fa' fc') 28 (0, 0))) := by rw [hwn]; exact setRow_heap _ _ _ _ _ _ R10c.out
     have F2 : Hid (StOwn bn wn T va' vc' fa' fc') := by rw [hwn]; exact HSc.out.set hbn
     have F3 : Hid (Below w.heap.size w wn) := by rw [hwn]; exact HBWc.out.trans (Below.setRow _ B10 _ hB10w)
     have F4 : Hid (wn.heap[B8]? = some (.cells #[.int .i64 0, .int .i64 0, .int .i64 0, .int .i64 0, .int .i64 0, .int .i64 0, .int .i64 0, .int .i64 0, .slice none 0 0, .int .i64 0, .int .i64 0, .slice none 0 0] 28 (0, 0))) := by rw [hwn]; exact (setRow_other _ _ _ _ n8).trans R8c.out
     have F5 : Hid (wn.ownsRow (B10 + 1) 35 3 (.slice oa on oc) on xs) := by rw [hwn]; exact owns_setT HOWc.out R10c.out (by decide)
     have F6 : B10 < wn.heap.size := (blt F1.out)
     have F7 : Hid (wn.heap[B18]? = some (.cells #[.int .i64 x.kind, .int .i64 x.n, .slice ha' x.hits.length hc'] 35 (0, 0))) := by rw [hwn]; exact (setRow_other _ _ _ _ n18).trans R18.out
     clear hwn R10c HSc HBWc R8c HOWc R17 R18
     have hb7 := below_new (w := wn) (row := .cells #[.int .i64 x.kind, .int .i64 x.n, .slice ha' x.hits.length hc'] 35) rfl
     have F8 := hid (owns_keptT F5.out (KeptT.below (P := fun _ => True) hb7) trivial)
     have F9 := hid (blk_new wn (.cells #[.int .i64 x.kind, .int .i64 x.n, .slice ha' x.hits.length hc'] 35))
     have F10 := hid hb7
     have hs7 : B10 + 1 ≤ (wn.alloc (.cells #[.int .i64 x.kind, .int .i64 x.n, .slice ha' x.hits.length hc'] 35)).heap.size := by have := hb7.size; omega
     clear hb7 F5
     go_wp2_with (first
      | refine wpList_load_row rfl 35 _ rfl B18 rfl _ _ _ _ F7.out Tryz.underlying35 rfl (by kernel_rfl) ?_
      | (at_builtin; go_must (refine list_reply _ rfl (.tmp 78) (.tmp 80) rfl (B10 + 1) on wn.heap.size (.slice oa on oc) _ _ _ xs rfl rfl F8.out F9.out rfl (by omega) hs7 ?_)))
     intro gh gc w7 how7 hgr7 hat7 hlt7
     have hkt7 := KeptT.grown_own F8.out hgr7
     have hb17 : Below w.heap.size w w7 := ((F3.out.trans (F10.out.mono F3.out.size)).grown hgr7 (by have := F3.out.size; omega) (fun b hb => by have := (F8.out.lt b hb).1; omega))
     have G1 := hid ((hkt7 _ _ _ _ ((F10.out.block B10 F6).trans F1.out) (by decide)).trans ((F10.out.block B10 F6).trans F1.out))
     have G8 := hid ((hkt7 _ _ _ _ ((F10.out.block B8 (blt F4.out)).trans F4.out) (by decide)).trans ((F10.out.block B8 (blt F4.out)).trans F4.out))
     have G2 := hid ((F2.out.below F10.out).keptT hkt7 (by decide) (by decide) (by decide))
     have G3 := hid hb17
     have G5 := hid how7
     have G6 : B10 < w7.heap.size := (blt G1.out)
     clear how7 hgr7 hat7 hlt7 hkt7 hb17 F1 F2 F3 F4 F7 F8 F9 F10 hs7
     go_wp2_with fail
     go_roundw
     case rel => exact ⟨j + 1, T, va', fa', vc', fc', bn, some ⟨gh, 0, none⟩, on + 1, gc, _, by omega, by omega, rfl, by go_num, by omega, hbn, G6, HPT, G3, G8, G1, G2, G5⟩
     case measure => simp [intOf]; omega
end Go.Proofs.YtbeegfkfpkfccaaGreatDoor.D

