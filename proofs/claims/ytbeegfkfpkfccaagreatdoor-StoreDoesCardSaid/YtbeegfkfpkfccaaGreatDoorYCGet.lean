/-
 Contract: keeper.get: what is found of keys.
-/
import Derived.Test.YtbeegfkfpkfccaaGreatDoorYPut
import Derived.Test.YtbeegfkfpkfccaaGreatDoorYReq
import Derived.Test.YtbeegfkfpkfccaaGreatDoorYPlain
import Derived.Deep.AppendLies
namespace Go.Proofs.YtbeegfkfpkfccaaGreatDoor.D
open Go.RowKit
def RepEnd (base g : Nat) (t : Store × Reply) (w : World) (E : Ending) (w' : World) : Prop :=
 ∃ ha hc, E = .returned (.agg (replyCells t.2 ha hc)) ∧ RowsAt w' ha 4 HitR t.2.hits ∧ Kept base g t.1 w' ∧ Below base w w' ∧ KeptT Oth w w'
theorem infoHit : (Tryz.prog.info? 53).map (fun i => (i.zero, i.size, i.bytes)) = some (some (.agg #[.string ByteArray.empty, .int .i64 0, .int .i64 0, .string ByteArray.empty]), 4, 48) := by kernel_rfl
theorem step_hit {ops : Array Oper} {o : Oper} {a : Act} {K : Act → World → Prop} {Q : Exit → Act → World → Prop} {E : Prop} (W : World) (hgd : o.guard = none) (s x : Operand)
  (ho : o.op = .call { callee := .builtin .append, args := #[s, x], argTypes := #[33, 33] }) (base k B : Nat) (v : Value) (y : Hit) (xs : List Value)
  (hs : a.eval s = v) (hx : a.eval x = .slice (some ⟨B, 0, none⟩) 1 1) (hown : W.ownsRow base 53 4 v k xs) (hb : W.heap[B]? = some (.cells (hitCells y).toArray 53 (0, 0)))
  (hk : (k + 1) * 48 ≤ 140737488355328) (hbase : base ≤ W.heap.size)
  (h : ∀ g cap w', w'.ownsRow base 53 4 (.slice (some ⟨g, 0, none⟩) (k + 1) cap) (k + 1) (xs ++ hitCells y) → W.grownBy w' v.ownBlock → (v.ownBlock = some g ∨ g = W.heap.size) → g < w'.heap.size → K (a.put o.dst (.slice (some ⟨g, 0, none⟩) (k + 1) cap)) w') :
  if Region.wanted o (yielded ops a.tmps) = true then Oper.wp Tryz.prog o a W K Q else E := by
 obtain ⟨j0, hj, hw0, hw1, hw2⟩ := info_parts infoHit;exact step_append_lies W hgd s x _ ho base 53 j0 _ 4 48 Tryz.underlying33 hj hw0 hw1 hw2 rfl (by decide) v k xs hs hown ⟨B, 0, none⟩ 1 1 (hitCells y) hx rfl (World.news_of_block hb) (ones rfl) (by decide) (by unfold maxLen; omega) hk hbase _ rfl h
theorem own_ne {w : World} {base : Nat} {e : TypeId} {size : Nat} {v : Value} {n : Nat} {xs : List Value} {b : Nat} {cs : Array Value} {T : TypeId} {fr : Nat × Nat} (h : w.ownsRow base e size v n xs) (hb : w.heap[b]? = some (.cells cs T fr)) (hT : T ≠ e) : v.ownBlock ≠ some b := by
 rcases h.2 with ⟨rfl, _⟩ | ⟨g, cap, cur, rfl, _, hh, _⟩
 ·intro h; cases h
 ·intro h
  cases h
  exact blk_ne hb hh hT rfl
theorem KeptT.grown_own {w w' : World} {base : Nat} {e : TypeId} {size : Nat} {v : Value} {n : Nat} {xs : List Value} (h : w.ownsRow base e size v n xs) (hg : w.grownBy w' v.ownBlock) : KeptT (· ≠ e) w w' := fun k _ _ _ hk ht =>
 hg.block k (blt hk) (fun he => own_ne h hk ht he.symm)
theorem KeepAt.typed {base g : Nat} {s : Store} {va : Option Addr} {vc : Nat} {fa : Option Addr} {fc : Nat} {vs : List Value} {w w' : World} {P : TypeId → Prop} (h : KeepAt base g s va vc fa fc vs w) (hk : KeptT P w w') (h1 : P 74) (h2 : P 83) (h3 : P 98) (h4 : P 5) : KeepAt base g s va vc fa fc vs w' :=
 ⟨(hk g _ _ _ h.row h1).trans h.row, owns_keptT h.own hk h2, h.pages.keptT hk h3 h4, h.here⟩
theorem KeptT.grown_far {P : TypeId → Prop} {w w6 w7 : World} {e : TypeId} {size : Nat} {v : Value} {n : Nat} {xs : List Value} (h : KeptT P w w6) (ho : w6.ownsRow w.heap.size e size v n xs) (hg : w6.grownBy w7 v.ownBlock) (hs : w.heap.size ≤ w6.heap.size) : KeptT P w w7 := fun k cs t fr hk ht => by
 have hkl := (blt hk);refine (hg.block k (by omega) (fun he => ?_)).trans (h k cs t fr hk ht);have := (ho.lt k he.symm).1;omega
def HitOk (y : Hit) : Prop := HitB y ∧ y.key.size ≤ reachBytes ∧ y.value.size ≤ reachBytes
theorem own_hits {w : World} {base : Nat} {va : Option Addr} {n vc : Nat} {xs : List Hit} (h : w.ownsRow base 53 4 (.slice va n vc) xs.length (xs.flatMap hitCells)) (hb : ∀ x ∈ xs, HitOk x) : RowsAt w va 4 HitR xs := by
 rcases Nat.eq_zero_or_pos xs.length with h0 | h0
 ·exact .inl (List.eq_nil_of_length_eq_zero h0)
 ·obtain ⟨g, cap, hv, _, _, _, _, hcell⟩ := own_shape h h0
  cases hv
  refine .inr ⟨g, 0, rfl, fun i hi => ⟨hitCells xs[i], rfl, ⟨rfl, (hb _ (List.getElem_mem hi)).2.1, (hb _ (List.getElem_mem hi)).2.2, (hb _ (List.getElem_mem hi)).1⟩, fun j v hj => ?_⟩⟩;rw [Nat.zero_add];have hj4 : j < 4 := (List.getElem?_eq_some_iff.1 hj).1;exact hcell _ _ ((flat_get hitCells 4 xs i xs[i] j (fun _ => rfl) (List.getElem?_eq_getElem hi) hj4).trans hj)
theorem got1_none {a : Store × List Hit} {k : ByteArray} (h : (live a.1 (bl k)).2 = none) : got1 a k = ((live a.1 (bl k)).1, a.2) := by
 unfold got1; rw [h]
theorem got1_some {a : Store × List Hit} {k : ByteArray} {i : Nat} (h : (live a.1 (bl k)).2 = some i) (hi : i < a.1.items.length) : got1 a k = (asked a.1 i, a.2 ++ [⟨k, a.1.items[i].flags, a.1.items[i].cas, valueOf a.1 a.1.items[i]⟩]) := by
 unfold got1; rw [h]; simp only; rw [List.getElem?_eq_getElem hi]
theorem got_step {s : Store} {ks : List ByteArray} {k : Nat} (hk : k < ks.length) : (ks.take (k + 1)).foldl got1 (s, []) = got1 ((ks.take k).foldl got1 (s, [])) ks[k] := by
 rw [List.take_succ_eq_append_getElem hk, List.foldl_append]; rfl
theorem value_asked (s : Store) (i : Nat) (x : Item) (n : Int) : valueOf (asked s i) { x with used := n } = valueOf s x := rfl
theorem rd_short {f : Flash} (h : f.ok = true) {q : Place} {v : Str} (hv : f.rd q = some v) : v.length ≤ 200 := by
 obtain ⟨i, hi, _, _, _, hf⟩ := rd_some h hv;obtain ⟨_, a6⟩ := fok_parts h;have hall := (pages_num a6 _ (List.getElem_mem hi)).2.2.2.1;rw [findRec_recs] at hf;obtain ⟨r, hr, rfl⟩ := Option.map_eq_some_iff.1 hf;exact (recs_good hall r (List.mem_of_find?_eq_some hr)).1
theorem value_size {s : Store} (hs : SOk s) {x : Item} (hx : x ∈ s.items) : (valueOf s x).size ≤ 200 := by
 have h := (itemOK_iff _ _).1 (hs.items x hx);unfold valueOf
 split
 ·rename_i hf
  have h1 := (h.2.2.2.2.2.2.1 hf).1;obtain ⟨v, hv⟩ := (rd_read hs.flash x.place).1.1 h1;rw [(rd_read hs.flash x.place).2 v hv];have := rd_short hs.flash hv;show v.toArray.size ≤ 200
  simpa using this
 ·exact h.2.2.2.2.2.1
section
variable {base g : Nat} {s : Store} {va : Option Addr} {vc : Nat} {fa : Option Addr} {fc : Nat} {vs : List Value}
set_option maxHeartbeats 4000000 in
set_option maxRecDepth 100000 in
theorem keeper_get (w : World) (h : KeepAt base g s va vc fa fc vs w) (hs : SOk s) (r : Req) (ka : Option Addr) (kc : Nat) (hk : ∀ w', Below base w w' → RowsAt w' ka 1 strR r.keys) (hl : r.keys.length ≤ 10) (hu : s.uses + 10 ≤ maxN) :
  Calls Tryz.prog 87 #[.pointer (some ⟨g, 0, none⟩), .agg #[.int .i64 r.kind, .string r.key, .slice ka r.keys.length kc, .int .i64 r.flags, .int .i64 r.exp, .int .i64 r.n, .string r.value, .bool r.quiet]] w (RepEnd base g ((got s r.keys).1, ⟨1, 0, (got s r.keys).2⟩) w) := by
 have H := hid h;have HS := hid hs;have HK := hid hk;have HU := hid hu;have hbase := h.base_le;clear h hs hk hu
 go_enter Tryz.func87, Tryz.ntmps87
 go_wp2_with fail
 obtain ⟨W3, hW3⟩ : ∃ W3, W3 = ((w.alloc (.cells #[.int .i64 r.kind, .string r.key, .slice ka r.keys.length kc, .int .i64 r.flags, .int .i64 r.exp, .int .i64 r.n, .string r.value, .bool r.quiet] 31)).alloc (.cells #[.int .i64 0, .int .i64 0, .slice none 0 0] 35)).alloc (.cells #[.int .i64 1, .int .i64 0, .slice none 0 0] 35) := ⟨_, rfl⟩;have HB3 : Hid (Below w.heap.size w W3) := by show Below _ _ _; rw [hW3]; go_grown
 have R4 : Hid (W3.heap[w.heap.size + 1]? = some (.cells #[.int .i64 0, .int .i64 0, .slice none 0 0] 35 (0, 0))) := by
  show _ = _;rw [hW3, Below.heap_alloc _ _ _ (by simp)];have := blk_new (w.alloc (.cells #[.int .i64 r.kind, .string r.key, .slice ka r.keys.length kc, .int .i64 r.flags, .int .i64 r.exp, .int .i64 r.n, .string r.value, .bool r.quiet] 31)) (.cells #[.int .i64 0, .int .i64 0, .slice none 0 0] 35)
  simpa using this
 have R5 : Hid (W3.heap[w.heap.size + 1 + 1]? = some (.cells #[.int .i64 1, .int .i64 0, .slice none 0 0] 35 (0, 0))) := by
  show _ = _;rw [hW3];have := blk_new ((w.alloc (.cells #[.int .i64 r.kind, .string r.key, .slice ka r.keys.length kc, .int .i64 r.flags, .int .i64 r.exp, .int .i64 r.n, .string r.value, .bool r.quiet] 31)).alloc (.cells #[.int .i64 0, .int .i64 0, .slice none 0 0] 35)) (.cells #[.int .i64 1, .int .i64 0, .slice none 0 0] 35)
  simpa using this
 rw [← hW3];clear hW3;obtain ⟨B4, hB4⟩ : ∃ B, B = w.heap.size + 1 := ⟨_, rfl⟩;obtain ⟨B5, hB5⟩ : ∃ B, B = w.heap.size + 1 + 1 := ⟨_, rfl⟩;rw [← hB5] at R5;rw [← hB4] at R4;rw [← hB5, ← hB4];have hB4w : w.heap.size ≤ B4 := by omega
 have hB5w : w.heap.size ≤ B5 := by omega
 have hB45 : B4 ≠ B5 := by omega
 clear hB4 hB5;obtain ⟨n, hn⟩ : ∃ n, n = r.keys.length := ⟨_, rfl⟩;have HN := hid hn;rw [← hn] at hl;show Code.wp _ _ _ _ _;rw [← hn];clear hn
 go_loopw [14] (fun iv wr => ∃ (k : Nat) (t : Store) (l : List Hit) (ha : Option Addr) (hc : Nat), k ≤ n ∧ iv = .int .i64 k ∧ l.length ≤ k ∧ Hid ((r.keys.take k).foldl got1 (s, []) = (t, l)) ∧ Hid (SOk t) ∧ t.uses ≤ s.uses + k ∧ Hid (Kept base g t wr) ∧ Hid (Below base w wr) ∧ Hid (KeptT Oth w wr) ∧ w.heap.size ≤ wr.heap.size ∧
  Hid (wr.heap[B4]? = some (.cells #[.int .i64 0, .int .i64 0, .slice none 0 0] 35 (0, 0))) ∧ Hid (wr.heap[B5]? = some (.cells #[.int .i64 1, .int .i64 0, .slice ha l.length hc] 35 (0, 0))) ∧ Hid (wr.ownsRow w.heap.size 53 4 (.slice ha l.length hc) l.length (l.flatMap hitCells)) ∧ Hid (∀ y ∈ l, HitOk y)) (fun iv _ => n - (intOf iv).toNat)
 case atStart =>
  exact ⟨0, s, [], none, 0, Nat.zero_le _, rfl, Nat.le_refl _, rfl, HS, by omega, ⟨_, _, _, _, _, H.out.below HB3.out⟩, HB3.out.mono hbase, KeptT.below HB3.out, HB3.out.size, R4, R5, World.ownsRow_nil _ _ _ _, fun y hy => by cases hy⟩
 case round =>
  obtain ⟨k, t, l, ha, hc, hkn, rfl, hlk, HF, HST, htu, HKP, HB, HT, hsz, R4r, R5r, HOW, HOK⟩ := hrel;clear R4 R5 HB3
  by_cases hlt : k < n
  ·
   have hkl : k < r.keys.length := by rw [← HN.out]; exact hlt
   obtain ⟨b, o, rfl, hcel⟩ := (HK.out wr HB.out).pos (by omega);obtain ⟨cs, -, ⟨hcs, hks⟩, h3⟩ := hcel k hkl;obtain ⟨key, hkey⟩ : ∃ key, key = r.keys[k] := ⟨_, rfl⟩;rw [← hkey] at hcs hks;subst hcs;have k0 := h3 0 _ rfl;rw [Nat.mul_one, Nat.add_zero] at k0;have HKE := hid hkey;have HST1 : Hid ((r.keys.take (k + 1)).foldl got1 (s, []) = got1 (t, l) key) := by show _ = _; rw [got_step hkl, HF.out, hkey]
   clear h3 hcel hkey HF;obtain ⟨va1, vc1, fa1, fc1, vs1, hk1⟩ := HKP.out;have K1 := hid hk1;have hbase1 := hk1.base_le;clear hk1 HKP;have HUM : Hid (t.uses < maxN) := by have := HU.out; show _ < _; omega
   go_wp2_with fail
   refine (keeper_live wr K1.out HST.out key).mono ?_;rintro e w2 ⟨rfl, hk2, hb2, ht2⟩;have HB2 := hid (HB.out.trans hb2);have HT2 : Hid (KeptT Oth w w2) := HT.out.trans ht2;have R42 := hid ((ht2 _ _ _ _ R4r.out ⟨by decide, by decide⟩).trans R4r.out);have R52 := hid ((ht2 _ _ _ _ R5r.out ⟨by decide, by decide⟩).trans R5r.out);have HOW2 := hid (owns_keptT HOW.out ht2 ⟨by decide, by decide⟩);have hsz2 : w.heap.size ≤ w2.heap.size := Nat.le_trans hsz hb2.size;obtain ⟨li, hli⟩ : ∃ li, li = (live t (bl key)).2 := ⟨_, rfl⟩;have HLI := hid hli;have HLV := hid (HST.out.live (bl key));obtain ⟨hlu, -⟩ := live_uses t (bl key);have HK2 := hid hk2;rw [← hli];clear hli hk2 hb2 ht2 k0 K1 HB HT R4r R5r HOW
   cases li with
   | none =>
    have HG := hid (HST1.out.trans (got1_none HLI.out.symm));have hx1 : (live t (bl key)).1.uses ≤ s.uses + ((k + 1 : Nat) : Int) := by rw [hlu]; omega
    clear hlu;simp only [idxOf]
    go_wp2_with fail
    go_roundw
    case rel => exact ⟨k + 1, _, l, ha, hc, by omega, by go_num, by omega, HG, HLV, hx1, HK2, HB2, HT2, hsz2, R42, R52, HOW2, HOK⟩
    case measure => simp [intOf]; omega
   | some i =>
    obtain ⟨e1, -, hi, -⟩ := live_some HLI.out.symm;have HG := hid (HST1.out.trans (got1_some HLI.out.symm hi));rw [e1] at HK2;obtain ⟨va2, vc2, fa2, fc2, vs2, hk2⟩ := HK2.out;have K2 := hid hk2;clear e1 HK2 hk2 HLV hlu HST1;simp only [idxOf];have hi0 : ¬ (i : Int) < 0 := by omega
    go_wp2_with fail
    refine (keeper_used w2 K2.out HST.out i hi HUM.out).mono ?_;rintro e w3 ⟨rfl, hk3, hb3, ht3⟩;have K3 := hid hk3;have HB3 := hid (HB2.out.trans hb3);have HT3 : Hid (KeptT Oth w w3) := HT2.out.trans ht3;have R43 := hid ((ht3 _ _ _ _ R42.out ⟨by decide, by decide⟩).trans R42.out);have R53 := hid ((ht3 _ _ _ _ R52.out ⟨by decide, by decide⟩).trans R52.out);have HOW3 := hid (owns_keptT HOW2.out ht3 ⟨by decide, by decide⟩);have hsz3 : w.heap.size ≤ w3.heap.size := Nat.le_trans hsz2 hb3.size;have HSA := hid (HST.out.asked i HUM.out);obtain ⟨x, hx⟩ : ∃ x, x = t.items[i] := ⟨_, rfl⟩;obtain ⟨y, hy⟩ : ∃ y : Item, y = { x with used := t.uses + 1 } := ⟨_, rfl⟩
    have HYI : Hid ((asked t i).items[i]? = some y) := by
     show (t.items.modify i _)[i]? = _;rw [List.getElem?_modify_eq, List.getElem?_eq_getElem hi, ← hx, hy]; rfl
    have HXM : Hid (x ∈ t.items) := by rw [hx]; exact List.getElem_mem hi
    have HVY : Hid (valueOf (asked t i) y = valueOf t x) := by rw [hy]; exact value_asked t i x _
    have hyf : y.flags = x.flags := by rw [hy]
    have hyc : y.cas = x.cas := by rw [hy]
    rw [← hx] at HG;have HYF := hid hyf;have HYC := hid hyc;have hil : i < (asked t i).items.length := (List.getElem?_eq_some_iff.1 HYI.out).1;have hal : (asked t i).items.length ≤ 1000 := HSA.out.len;obtain ⟨gi, cap, hv, hbg, hgl, hnc, hcm, -⟩ := own_shape K3.out.own (by omega);simp only [Value.slice.injEq, true_and] at hv;obtain ⟨rfl, rfl⟩ := hv;have hcm := le_maxLen hcm;have c8 := K3.out.cells.2.2.2.2.2.2.2.2.1;have hgk3 := K3.out.lt;obtain ⟨d0, d1, d2, d3, d4, d5, d6, d7, d8⟩ := own_item K3.out.own HYI.out;obtain ⟨ln, hln⟩ : ∃ ln, ln = (asked t i).items.length := ⟨_, rfl⟩;rw [← hln] at c8 hil hal hnc;clear hk3 hb3 ht3 hx hy hyf hyc K2 HB2 HT2 R42 R52 HOW2 hsz2 hln hi;go_upto_region 9 with (fail);obtain ⟨W4, hW4⟩ : ∃ W4, W4 = w3.alloc (.cells #[.string y.key, .int .i64 y.flags, .int .i64 y.till, .int .i64 y.cas, .int .i64 y.used, .string y.value, .bool y.far, .int .i64 y.place.page, .int .i64 y.place.off] 83) := ⟨_, rfl⟩;have hb4 := below_new hW4;have R94 : Hid (W4.heap[w3.heap.size]? = some (.cells #[.string y.key, .int .i64 y.flags, .int .i64 y.till, .int .i64 y.cas, .int .i64 y.used, .string y.value, .bool y.far, .int .i64 y.place.page, .int .i64 y.place.off] 83 (0, 0))) := by show _ = _; rw [hW4]; exact blk_new w3 _
    rw [← hW4];clear hW4;obtain ⟨B9, hB9⟩ : ∃ B9, B9 = w3.heap.size := ⟨_, rfl⟩;rw [← hB9] at R94 ⊢;clear hB9;have K4 := hid (K3.out.below hb4);have HB4 := hid (HB3.out.trans (hb4.mono K3.out.base_le));have HT4 : Hid (KeptT Oth w W4) := HT3.out.trans (KeptT.below hb4);have R44 := hid (bkp hb4 R43.out);have R54 := hid (bkp hb4 R53.out);have HOW4 := hid (owns_keptT HOW3.out (KeptT.below (P := fun _ => True) hb4) trivial);have hsz4 : w.heap.size ≤ W4.heap.size := Nat.le_trans hsz3 hb4.size;clear hb4 K3 HB3 HT3 R43 R53 HOW3 hsz3 c8 d0 d1 d2 d3 d4 d5 d6 d7 d8 hgk3 hgl hnc;have e5 : W4.cell? ⟨B5, 2, none⟩ = some (.slice ha l.length hc) := cor R54.out rfl;have e91 : W4.cell? ⟨B9, 1, none⟩ = some (.int .i64 y.flags) := cor R94.out rfl;have e93 : W4.cell? ⟨B9, 3, none⟩ = some (.int .i64 y.cas) := cor R94.out rfl;obtain ⟨v, hv⟩ : ∃ v, v = valueOf t x := ⟨_, rfl⟩;have HVV : Hid (valueOf (asked t i) y = v) := by show _ = _; rw [HVY.out, hv]
    obtain ⟨Y, hY⟩ : ∃ Y : Hit, Y = ⟨key, y.flags, y.cas, v⟩ := ⟨_, rfl⟩
    have HYY : Hid ((r.keys.take (k + 1)).foldl got1 (s, []) = (asked t i, l ++ [Y])) := by
     show _ = _;rw [HG.out, hY, HYF.out, HYC.out, hv]
    have HYO : Hid (HitOk Y) := by
     have hin := HST.out.nums HXM.out;have h1 := hin.flags; have h2 := hin.cas;have h3 := value_size HST.out HXM.out;have hr : 1000 ≤ reachBytes := by decide
     rw [hY, HYF.out, HYC.out, hv];exact ⟨⟨by show _ ≤ x.flags; omega, by show x.flags ≤ _; omega, by show _ ≤ x.cas; omega, by show x.cas ≤ _; omega⟩, hks, by show (valueOf t x).size ≤ _; omega⟩
    have hYk : Y.key = key := by rw [hY]
    have hYf : Y.flags = y.flags := by rw [hY]
    have hYc : Y.cas = y.cas := by rw [hY]
    have hYv : Y.value = v := by rw [hY]
    have HYR := hid hY;clear hv hY HG HVY HYF HYC hYk hYf hYc hYv;have hlk2 : (l.length + 1) * 48 ≤ 140737488355328 := by omega
    refine wp_region_L (fun w' => w'.heap[B5]? = W4.heap[B5]? ∧ w'.heap[B9]? = W4.heap[B9]?) 14 15 (by kernel_rfl) (by kernel_rfl) ⟨rfl, rfl⟩ (fun hHeld => ?_);refine tk 0 ?_ rfl (fun _ _ _ h=>h) (y:=?_) (h:=?_);rotate_left
    ·intro wS hSw; go_simp<;>with_reducible rfl
    walk_nrm;refine tk 1 ?_ rfl (fun _ _ _ h=>h) (y:=?_) (h:=?_);rotate_left
    ·intro wS hSw; have q1 := (World.cell?_of_block (a := ⟨B5, 2, none⟩) hSw.1).trans e5; go_simp<;>with_reducible rfl
    walk_nrm;refine tk 2 ?_ rfl (fun _ _ _ h=>h) (y:=?_) (h:=?_);rotate_left
    ·intro wS hSw; go_simp<;>with_reducible rfl
    walk_nrm;refine tk 3 ?_ rfl (fun _ _ _ h=>h) (y:=?_) (h:=?_);rotate_left
    ·intro wS hSw; go_simp<;>with_reducible rfl
    walk_nrm;refine tk 4 ?_ rfl (fun _ _ _ h=>h) (y:=?_) (h:=?_);rotate_left
    ·intro wS hSw; have q1 := (World.cell?_of_block (a := ⟨B9, 1, none⟩) hSw.2).trans e91; go_simp<;>with_reducible rfl
    walk_nrm;refine tk 5 ?_ rfl (fun _ _ _ h=>h) (y:=?_) (h:=?_);rotate_left
    ·intro wS hSw; go_simp<;>with_reducible rfl
    walk_nrm;refine tk 6 ?_ rfl (fun _ _ _ h=>h) (y:=?_) (h:=?_);rotate_left
    ·intro wS hSw; have q1 := (World.cell?_of_block (a := ⟨B9, 3, none⟩) hSw.2).trans e93; go_simp<;>with_reducible rfl
    walk_nrm;refine tk 7 ?_ rfl (fun _ _ _ h=>h) (y:=?_) (h:=?_);rotate_left
    ·intro wS hSw; go_simp<;>with_reducible rfl
    walk_nrm;refine tk 8 ?_ rfl (fun _ _ _ h=>h) (y:=?_) (h:=?_);rotate_left
    ·intro wS hSw; go_simp<;>with_reducible rfl
    walk_nrm;refine wpAnyL_one 9 (by kernel_rfl) ?_;refine ComesUp.mk rfl (fun K hK => ?_);go_simp;refine (keeper_value W4.drew (K4.out.below (Below.drew (Below.refl _ _))) HSA.out i y HYI.out v HVV).mono ?_;rintro e w5 ⟨rfl, hb5⟩;have hb5 : Below W4.heap.size W4 w5 := (Below.drew (Below.refl _ _)).trans hb5;have S5 : w5.heap[B5]? = W4.heap[B5]? ∧ w5.heap[B9]? = W4.heap[B9]? := ⟨hb5.block _ (blt R54.out), hb5.block _ (blt R94.out)⟩;show K _ w5;refine hK.out _ _ S5 ?_;clear hK K hHeld;intro hHeld;walk_nrm;refine tk 10 ?_ rfl (fun _ _ _ h=>h) (y:=?_) (h:=?_);rotate_left
    ·intro wS hSw; go_simp<;>with_reducible rfl
    walk_nrm;refine wpAnyL_one 11 (by kernel_rfl) ?_;refine ComesUp.mk rfl (fun K hK => ?_);go_simp;obtain ⟨W6, hW6⟩ : ∃ W6, W6 = w5.alloc (.cells #[.string key, .int .i64 y.flags, .int .i64 y.cas, .string v] 53) := ⟨_, rfl⟩;have hb6 := below_new hW6;have RY : Hid (W6.heap[w5.heap.size]? = some (.cells (hitCells Y).toArray 53 (0, 0))) := by show _ = _; rw [hW6, HYR.out]; exact blk_new w5 _
    rw [← hW6];clear hW6;have hb46 : Below W4.heap.size W4 W6 := hb5.trans (hb6.mono hb5.size);have K6 := hid (K4.out.below hb46);have HB6 := hid (HB4.out.trans (hb46.mono K4.out.base_le));have HT6 : Hid (KeptT Oth w W6) := HT4.out.trans (KeptT.below hb46);have R46 := hid (bkp hb46 R44.out);have R56 := hid (bkp hb46 R54.out);have HOW6 := hid (owns_keptT HOW4.out (KeptT.below (P := fun _ => True) hb46) trivial);have hsz6 : w.heap.size ≤ W6.heap.size := Nat.le_trans hsz4 hb46.size;have S6 : W6.heap[B5]? = W4.heap[B5]? ∧ W6.heap[B9]? = W4.heap[B9]? := ⟨hb46.block _ (blt R54.out), hb46.block _ (blt R94.out)⟩;refine hK.out _ _ S6 ?_;clear hK K hHeld hb6 hb5 S5;intro hHeld;walk_nrm;refine wpAnyL_one 12 (by kernel_rfl) ?_;refine ComesUp.mk rfl (fun K hK => ?_);refine step_hit W6 rfl _ _ rfl w.heap.size l.length w5.heap.size (.slice ha l.length hc) Y (l.flatMap hitCells) rfl rfl HOW6.out RY.out hlk2 hsz6 ?_;intro gh gc w7 how7 hgr7 hat7 hlt7;have hkt7 := KeptT.grown_own HOW6.out hgr7;have K7 := hid (K6.out.typed hkt7 (by decide) (by decide) (by decide) (by decide));have HB7 := hid (HB6.out.grown hgr7 K6.out.base_le (fun b hb => Nat.le_trans hbase (HOW6.out.lt b hb).1));have HT7 := hid (HT6.out.grown_far HOW6.out hgr7 hsz6);have R47 := hid ((hkt7 _ _ _ _ R46.out (by decide)).trans R46.out);have R57 := hid ((hkt7 _ _ _ _ R56.out (by decide)).trans R56.out);have hfe : (l ++ [Y]).flatMap hitCells = l.flatMap hitCells ++ hitCells Y := by rw [List.flatMap_append]; simp
    have HOW7 : Hid (w7.ownsRow w.heap.size 53 4 (.slice (some ⟨gh, 0, none⟩) (l ++ [Y]).length gc) (l ++ [Y]).length ((l ++ [Y]).flatMap hitCells)) := by
     show World.ownsRow _ _ _ _ _ _ _;rw [hfe, List.length_append]; exact how7
    have hsz7 : w.heap.size ≤ w7.heap.size := Nat.le_trans hsz6 hgr7.size;have R97 : w7.heap[B9]? = W4.heap[B9]? := (hkt7 _ _ _ _ (hHeld.2.trans R94.out) (by decide)).trans hHeld.2;have S7 : w7.heap[B5]? = W4.heap[B5]? ∧ w7.heap[B9]? = W4.heap[B9]? := ⟨R57.out.trans R54.out.symm, R97⟩;refine hK.out _ _ S7 ?_;clear hK K hHeld S6 S7 R97 hkt7 how7 hgr7 hat7 hlt7 hfe;intro hHeld;walk_nrm;refine tk 13 ?_ rfl (fun _ _ _ h=>h) (y:=?_) (h:=?_);rotate_left
    ·intro wS hSw; go_simp<;>with_reducible rfl
    walk_nrm;have q5 : w7.cell? ⟨B5, 2, none⟩ = some (.slice ha l.length hc) := cor R57.out rfl;have q6 : ∀ i, w7.frozen? ⟨B5, i, none⟩ = false := fun i => frozen_of_row w7 _ _ _ _ R57.out
    refine wpAnyL_last rfl (by kernel_rfl) (fun K hK => ?_);go_simp;refine hK.out _ _ ?_;clear hK K;walk_nrm;refine wpAnyL_done (by kernel_rfl) ?_ _;clear q5 q6 hHeld e5 e91 e93;have hll : (l ++ [Y]).length = l.length + 1 := by simp
    have HFIN : Hid (∃ (l' : List Hit) (ha' : Option Addr) (hc' : Nat), l'.length ≤ k + 1 ∧ Hid ((r.keys.take (k + 1)).foldl got1 (s, []) = (asked t i, l')) ∧ Hid (Kept base g (asked t i) (w7.setCell ⟨B5, 2, none⟩ (.slice (some ⟨gh, 0, none⟩) (l.length + 1) gc))) ∧ Hid (Below base w (w7.setCell ⟨B5, 2, none⟩ (.slice (some ⟨gh, 0, none⟩) (l.length + 1) gc))) ∧
      Hid (KeptT Oth w (w7.setCell ⟨B5, 2, none⟩ (.slice (some ⟨gh, 0, none⟩) (l.length + 1) gc))) ∧ w.heap.size ≤ (w7.setCell ⟨B5, 2, none⟩ (.slice (some ⟨gh, 0, none⟩) (l.length + 1) gc)).heap.size ∧
      Hid ((w7.setCell ⟨B5, 2, none⟩ (.slice (some ⟨gh, 0, none⟩) (l.length + 1) gc)).heap[B4]? = some (.cells #[.int .i64 0, .int .i64 0, .slice none 0 0] 35 (0, 0))) ∧
      Hid ((w7.setCell ⟨B5, 2, none⟩ (.slice (some ⟨gh, 0, none⟩) (l.length + 1) gc)).heap[B5]? = some (.cells #[.int .i64 1, .int .i64 0, .slice ha' l'.length hc'] 35 (0, 0))) ∧
      Hid ((w7.setCell ⟨B5, 2, none⟩ (.slice (some ⟨gh, 0, none⟩) (l.length + 1) gc)).ownsRow w.heap.size 53 4 (.slice ha' l'.length hc') l'.length (l'.flatMap hitCells)) ∧ Hid (∀ y ∈ l', HitOk y)) := by
     refine ⟨l ++ [Y], some ⟨gh, 0, none⟩, gc, by omega, HYY, Kept.set_far ⟨_, _, _, _, _, K7.out⟩ R57.out (by decide) (by decide) (by decide) (by decide), HB7.out.setCell (p := ⟨B5, 2, none⟩) (by show base ≤ B5; omega) _, HT7.out.set_far hB5w, by simpa using hsz7, blk_off R47.out hB45, ?_, owns_keptT HOW7.out (KeptT.set R57.out) (by decide), ?_⟩
     ·rw [hll]
      have := R57.out;show (World.setCell _ _ _).heap[B5]? = _
      simp [World.setCell, Array.getElem?_modify, this]
     ·intro y hy
      rcases List.mem_append.1 hy with h | h
      ·exact HOK.out y h
      ·rw [List.mem_singleton.1 h]; exact HYO.out
    go_wp2_with fail
    go_roundw
    case rel =>
     obtain ⟨l', ha', hc', f1, f2, f3, f4, f5, f6, f7, f8, f9, f10⟩ := HFIN.out;exact ⟨k + 1, asked t i, l', ha', hc', by omega, by go_num, f1, f2, HSA, by show t.uses + 1 ≤ _; omega, f3, f4, f5, f6, f7, f8, f9, f10⟩
    case measure => simp [intOf]; omega
  ·
   have hk2 : k = r.keys.length := by rw [← HN.out]; omega
   have HE : Hid (got s r.keys = (t, l)) := by show r.keys.foldl got1 (s, []) = _; rw [← HF.out, hk2, List.take_length]
   clear HF hk2;have e0 : wr.cell? ⟨B5, 0, none⟩ = some (.int .i64 1) := cor R5r.out rfl;have e1 : wr.cell? ⟨B5, 1, none⟩ = some (.int .i64 0) := cor R5r.out rfl;have e2 : wr.cell? ⟨B5, 2, none⟩ = some (.slice ha l.length hc) := cor R5r.out rfl;have f0 : wr.cell? ⟨B4, 0, none⟩ = some (.int .i64 0) := cor R4r.out rfl;have f1 : wr.cell? ⟨B4, 1, none⟩ = some (.int .i64 0) := cor R4r.out rfl;have f2 : wr.cell? ⟨B4, 2, none⟩ = some (.slice none 0 0) := cor R4r.out rfl;have ff : ∀ i, wr.frozen? ⟨B4, i, none⟩ = false := fun i => frozen_of_row wr _ _ _ _ R4r.out
   have HFIN : Hid (RepEnd base g ((got s r.keys).1, ⟨1, 0, (got s r.keys).2⟩) w (.returned (.agg #[.int .i64 1, .int .i64 0, .slice ha l.length hc])) (((wr.setCell ⟨B4, 0, none⟩ (.int .i64 1)).setCell ⟨B4, 1, none⟩ (.int .i64 0)).setCell ⟨B4, 2, none⟩ (.slice ha l.length hc))) := by
    refine ⟨ha, hc, by rw [HE.out]; rfl, ?_, ?_, ?_, ?_⟩
    ·rw [HE.out]
     refine own_hits (base := w.heap.size) (n := l.length) (vc := hc) (owns_keptT HOW.out (P := fun t => t ≠ 35) (fun k cs t fr hk ht => ?_) (by decide)) HOK.out;have m := blk_ne hk R4r.out ht;exact blk_off (blk_off (blk_off rfl m) m) m
    ·rw [HE.out]
     exact (reply_far (j := 2) (reply_far (j := 1) (reply_far (j := 0) ⟨HKP.out, _, R4r.out⟩))).1
    ·exact ((HB.out.setCell (p := ⟨B4, 0, none⟩) (by show base ≤ B4; omega) _).setCell (p := ⟨B4, 1, none⟩) (by show base ≤ B4; omega) _).setCell (p := ⟨B4, 2, none⟩) (by show base ≤ B4; omega) _
    ·exact ((HT.out.set_far hB4w).set_far hB4w).set_far hB4w
   have hr := hid (blk_three (x := .int .i64 1) (y := .int .i64 0) (z := .slice ha l.length hc) R4r.out);clear HE HST HKP HB HT R4r R5r HOW HOK
   go_wp2_with fail
   refine bodyPost_ret (v := .agg #[.int .i64 1, .int .i64 0, .slice ha l.length hc]) ?_ rfl HFIN.out;obtain ⟨q0, q1, q2⟩ := reply_cells hr.out
   simp [results, Tryz.results87, go_sem, q0, q1, q2]
end
end Go.Proofs.YtbeegfkfpkfccaaGreatDoor.D
