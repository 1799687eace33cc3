/-
 PROVED: 'Rows.SnapsBackCardSaid': a store is kept, and comes back; cut short, or spoilt, it does not. No condition; the tables that the call reads are tied to the program's text.
-/
import Derived.Test.YtbeegfkfpkfccaaGreatDoorYCPlay
import Derived.Test.YtbeegfkfpkfccaaGreatDoorYCDoorS
import Derived.Test.YtbeegfkfpkfccaaGreatDoorYPBack
import Derived.Test.YtbeegfkfpkfccaaGreatDoorYZDec
namespace Go.Proofs.YtbeegfkfpkfccaaGreatDoor.D
open Go.ChangeShapes Go.WideShapes Go.ChangeAt Go.RowKit

theorem laidOut : laidOutB Tryz.prog = true := by kernel_rfl

theorem trodAll_stays {H : Type} {enc : TypeId × Value → H} {W W' : World} (hb : Below W.heap.size W W') :
  ∀ {ts : List TypeId} {vs : List Value} {ds : List (DataW H)} {ps : List MemPlace}, (∀ t ∈ ts, Tryz.prog.readableRec t = true ∧ t < Tryz.prog.types.size) →
   (∀ x ∈ ps, x.block < W.heap.size) → DataW.TrodAll enc Tryz.prog W 0 (fun _ => true) true ts vs ds ps →
   DataW.TrodAll enc Tryz.prog W' 0 (fun b => decide (b < W.heap.size)) true ts vs ds ps
 | [], vs, ds, ps, _, _, h => by cases vs <;> cases ds <;> simp_all [DataW.TrodAll]
 | t :: ts, vs, ds, ps, hr, hl, h => by
  cases vs with
  | nil => simp [DataW.TrodAll] at h
  | cons v vs =>
   cases ds with
   | nil => simp [DataW.TrodAll] at h
   | cons d ds =>
    obtain ⟨p, q, h1, h2, rfl⟩ := h
    have ht := hr t (by simp)
    exact ⟨p, q, Below.trod laidOut ht.1 ht.2 h1 hb (fun x hx => hl x (by simp [hx])),
     trodAll_stays hb (fun t' ht' => hr t' (by simp [ht'])) (fun x hx => hl x (by simp [hx])) h2, rfl⟩

theorem law_post {H : Type} {enc : TypeId × Value → H} {f : Func} {s : ChangeSpec} {W W' : World} {args : Array Value} {ds gs : List (DataW H)} {before : List MemPlace}
  (hr : f.resultTypes = #[4]) (hv : s.vars = []) (hs : s.fn H (ds ++ gs) = { results := [.lit (.bool true)], args := ds })
  (hread0 : f.params.toList.all (fun t => Tryz.prog.readableRec t && decide (t < Tryz.prog.types.size)) = true)
  (hW : DataW.Whole enc Tryz.prog f.params.toList s.vars false W args.toList ds gs before) (hb : Below W.heap.size W W') :
  s.post enc Tryz.prog f false true false false W args (.bool true) W' := by
 have hread : ∀ t ∈ f.params.toList, Tryz.prog.readableRec t = true ∧ t < Tryz.prog.types.size := fun t ht => by
  have := List.all_eq_true.1 hread0 t ht
  simpa using this
 have hlt := hW.lt
 have hW' := hW
 obtain ⟨p, q, hA, hV, rfl, hfz, hnd⟩ := hW
 rw [hv] at hV
 obtain ⟨rfl, rfl⟩ := trodVars_none hV
 refine ⟨ds, [], p ++ [], [], p, [], hW', ?_, ?_, ?_, hb.frame _, fun h => by cases h⟩
 ·rw [hs, hr]
  exact trodAll_cons_mk (shut_bool Tryz.underlying4 _) trodAll_mk0
 ·rw [hs]
  exact trodAll_stays hb hread (fun x hx => by simpa using hlt x (by simp [hx])) hA
 ·rw [hs, hv]
  rfl
end Go.Proofs.YtbeegfkfpkfccaaGreatDoor.D
namespace Go.Proofs.YtbeegfkfpkfccaaGreatDoor.snapsBack
open Go.ChangeShapes Go.WideShapes Go.ChangeAt Go.RowKit Go.Proofs.YtbeegfkfpkfccaaGreatDoor.D Go.Deep Go.Joins
theorem enc_is (s : Store) (l : Str) (m : Int) (hl : Hid ((l, m) = s.bytes)) (n : Nat) (hn : Hid (n = l.length)) (a fa : Option Addr) (c fc : Nat) (w : World) (hc : Chunks w) (hI : RowsAt w a 9 ItemR s.items) (hF : RowsAt w fa 2 (PageR w) s.flash.pages)
  (h1 : s.items.length ≤ 1000) (h2 : s.flash.pages.length ≤ 20) :
  Calls Tryz.prog 23 #[.agg (storeV s a c fa fc)] w fun e w' => ∃ va vc, e = .returned (.tuple #[.slice va n vc, .int .i64 m]) ∧ BytesAt w' va l ∧ n ≤ vc ∧ vc ≤ 9223372036854775807 ∧ Below w.heap.size w w' := by
 have := snap_Encode s a fa c fc w hc hI hF (by omega) (by omega)
 rw [← hl.out] at this
 rw [hn.out]
 exact this
/-- a byte more behind bytes of the call's own -/
theorem list_u8 {ops : Array Oper} {rest : List Oper} {o : Oper} {a : Act} {Q : Exit → Act → World → Prop} (W : World) (hgd : o.guard = none) (s x : Operand)
  (ho : o.op = .call { callee := .builtin .append, args := #[s, x], argTypes := #[63, 63] }) (base k B : Nat) (v u : Value) (xs : List Value)
  (hs : a.eval s = v) (hx : a.eval x = .slice (some ⟨B, 0, none⟩) 1 1) (hown : W.ownsRow base 5 1 v k xs) (hb : W.heap[B]? = some (.cells #[u] 5 (0, 0))) (hu : [u].all (·.oneCell') = true)
  (hk : (k + 1) * 1 ≤ 140737488355328) (hbase : base ≤ W.heap.size)
  (h : ∀ g cap w', w'.ownsRow base 5 1 (.slice (some ⟨g, 0, none⟩) (k + 1) cap) (k + 1) (xs ++ [u]) → W.grownBy w' v.ownBlock → (v.ownBlock = some g ∨ g = W.heap.size) → g < w'.heap.size → wpList Tryz.prog ops Q rest (a.put o.dst (.slice (some ⟨g, 0, none⟩) (k + 1) cap)) w') :
  wpList Tryz.prog ops Q (o :: rest) a W := by
 obtain ⟨j0, hj, hw0, hw1, hw2⟩ := info_parts infoByte
 exact wpList_append_lies W hgd s x _ ho base 5 j0 _ 1 1 Tryz.underlying63 hj hw0 hw1 hw2 rfl (by decide) v k xs hs hown ⟨B, 0, none⟩ 1 1 [u] hx rfl (World.news_of_block hb) (ones hu) (by decide) (by unfold maxLen; omega) hk hbase _ rfl h
theorem row_bytes {w : World} {base g n c : Nat} {l : Str} (h : w.ownsRow base 5 1 (.slice (some ⟨g, 0, none⟩) n c) n (l.map byteV)) (hn : 0 < n) : BytesAt w (some ⟨g, 0, none⟩) l := by
 obtain ⟨g', c', hv, _, _, _, _, hc⟩ := own_shape h hn
 cases hv
 refine .inr ⟨g, 0, rfl, fun i v hv => ?_⟩
 rw [Nat.zero_add]
 exact hc i v hv
theorem row_free {w : World} {base g n c : Nat} {xs : List Value} (h : w.ownsRow base 5 1 (.slice (some ⟨g, 0, none⟩) n c) n xs) (j : Nat) : w.frozen? ⟨g, j, none⟩ = false := by
 obtain ⟨cs, hcs⟩ := row_type h
 unfold World.frozen?; rw [hcs]; simp
theorem bytes_set {w : World} {g j : Nat} {l : Str} {x : UInt8} (h : BytesAt w (some ⟨g, 0, none⟩) l) (hj : j < l.length) : BytesAt (w.setCell ⟨g, j, none⟩ (byteV x)) (some ⟨g, 0, none⟩) (l.set j x) := by
 obtain ⟨b, o, he, hc⟩ := h.pos (by omega)
 cases he
 refine .inr ⟨g, 0, rfl, fun i v hv => ?_⟩
 rw [List.getElem?_map, List.getElem?_set] at hv
 by_cases hij : j = i
 ·subst hij
  rw [if_pos rfl, if_pos hj] at hv
  cases hv
  rw [Nat.zero_add]
  have := hc j hj
  rw [Nat.zero_add] at this
  exact setCell_self this
 ·rw [if_neg hij] at hv
  cases hl : l[i]? with
  | none => rw [hl] at hv; cases hv
  | some y =>
   rw [hl] at hv
   cases hv
   obtain ⟨hi, he⟩ := List.getElem?_eq_some_iff.1 hl
   have := hc i hi
   rw [Nat.zero_add] at this
   rw [Nat.zero_add, cell_setCell_off this (Ne.symm hij), he]
/-- a byte and another one that is not 0, added up -/
theorem u8_add (x : UInt8) (d : Int) (h : 1 ≤ d ∧ d ≤ 255) : ∃ (y : UInt8) (m : Int), y ≠ x ∧ Value.int .u8 m = byteV x ∧ Value.int .u8 ((m + d) % 256) = byteV y := by
 have hx := x.toNat_lt
 obtain ⟨n, hn⟩ : ∃ n : Nat, ((x.toNat : Int) + d) % 256 = (n : Int) ∧ n < 256 ∧ n ≠ x.toNat := ⟨(((x.toNat : Int) + d) % 256).toNat, by omega⟩
 refine ⟨UInt8.ofNat n, (x.toNat : Int), fun e => hn.2.2 ?_, rfl, ?_⟩
 ·rw [← e, u8_back hn.2.1]
 ·rw [hn.1]; unfold byteV; rw [u8_back hn.2.1]
theorem new_62 : newS 6 2 = (⟨0, 0, 0, 6, 0, 0, 0, 0, [], ⟨2, 1, []⟩⟩, 0) := new_is (by omega) (by omega)
theorem bytes_62 : ∃ l : Str, (⟨0, 0, 0, 6, 0, 0, 0, 0, [], ⟨2, 1, []⟩⟩ : Store).bytes = (l, 0) ∧ 7 ≤ l.length ∧ l.length ≤ 150000 := by
 obtain ⟨l, h1, h2, h3, _⟩ := back_all (Played.zero (p := 6) (f := 2) (by omega) (by omega))
 exact ⟨l, h1, h2, h3⟩
set_option maxRecDepth 100000 in
set_option maxHeartbeats 4000000 in
theorem snap_tells (w : World) (he : Env w) : Calls Tryz.prog 22 #[] w fun e w' => e = .returned (.bool true) ∧ Below w.heap.size w w' := by
 have HE := hid he
 clear he
 have hnw := store_New 6 2
 rw [new_62] at hnw
 have HNW := hid hnw
 clear hnw
 obtain ⟨l, h1, h2, h3⟩ := bytes_62
 have HBY := hid h1.symm
 obtain ⟨n, hn⟩ : ∃ n, n = l.length := ⟨_, rfl⟩
 have HN := hid hn
 rw [← hn] at h2 h3
 have h0 : 0 < n := by omega
 clear h1 hn
 go_enter Tryz.func22, Tryz.ntmps22
 go_wp2_with fail
 refine (HNW.out _).mono ?_
 rintro e w1 ⟨rfl, hb1⟩
 have HB1 := hid hb1
 clear hb1
 obtain ⟨S0, hS0⟩ : ∃ S : Store, S = ⟨0, 0, 0, 6, 0, 0, 0, 0, [], ⟨2, 1, []⟩⟩ := ⟨_, rfl⟩
 go_upto_region 2 with (fail)
 obtain ⟨W2, hW2⟩ : ∃ W2, W2 = w1.alloc (.cells #[.int .i64 0, .int .i64 0, .int .i64 0, .int .i64 6, .int .i64 0, .int .i64 0, .int .i64 0, .int .i64 0, .slice none 0 0, .int .i64 2, .int .i64 1, .slice none 0 0] 28) := ⟨_, rfl⟩
 obtain ⟨B, hB⟩ : ∃ B, B = w1.heap.size := ⟨_, rfl⟩
 have hb2 := below_new hW2
 have RB : Hid (W2.heap[B]? = some (.cells (storeV S0 none 0 none 0) 28 (0, 0))) := by rw [hW2, hB, hS0]; exact blk_new w1 _
 have HB2 := hid (HB1.out.trans (hb2.mono HB1.out.size))
 have HE2 := hid (HE.out.on HB2.out)
 rw [← hW2, ← hB]
 rw [← hS0] at HBY
 have HL : Hid (S0.items.length ≤ 1000 ∧ S0.flash.pages.length ≤ 20) := by rw [hS0]; exact ⟨by decide, by decide⟩
 have HR : Hid (RowsAt W2 none 9 ItemR S0.items ∧ RowsAt W2 none 2 (PageR W2) S0.flash.pages) := by rw [hS0]; exact ⟨.inl rfl, .inl rfl⟩
 clear hb2 hW2 hB HB1 hS0
 go_wp2_with (refine wpList_load_row rfl 28 _ rfl B rfl _ _ _ _ RB.out Tryz.underlying28 rfl (by kernel_rfl) ?_)
 refine (enc_is S0 l 0 HBY n HN none none 0 0 W2 HE2.out.chunks HR.out.1 HR.out.2 HL.out.1 HL.out.2).mono ?_
 rintro e w3 ⟨va, vc, rfl, -, -, -, hb3⟩
 have HB3 := hid (HB2.out.trans (hb3.mono HB2.out.size))
 clear hb3
 go_wp2_with fail
 go_ret
 exact ⟨rfl, HB3.out⟩
set_option maxRecDepth 100000 in
set_option maxHeartbeats 8000000 in
theorem walk (l : List (Int × Int × Int × Int)) (a : Option Addr) (c : Nat) (pages far cut y : Int) (hp : I64 pages) (hf : I64 far) (hct : I64 cut) (hy : 0 ≤ y ∧ y ≤ 255) (w : World) (he : Env w) (h : RowsAt w a 4 rawR l) :
  Calls Tryz.prog 9 #[.slice a l.length c, .int .i64 pages, .int .i64 far, .int .i64 cut, .int .u8 y] w fun e w' => e = .returned (.bool true) ∧ Below w.heap.size w w' := by
 have HE := hid he
 have HR := hid h
 clear he h
 obtain ⟨n, hn⟩ : ∃ n, n = l.length := ⟨_, rfl⟩
 have HN := hid hn
 rw [← hn]
 clear hn
 obtain ⟨pg, hpg⟩ : ∃ t, pick pages 12 = t := ⟨_, rfl⟩
 have h1 := pick_lt pages 12 (by decide)
 rw [hpg] at h1
 have HPG := hid hpg
 obtain ⟨fr, hfr⟩ : ∃ t, pick far 6 = t := ⟨_, rfl⟩
 have h2 := pick_lt far 6 (by decide)
 rw [hfr] at h2
 have HFR := hid hfr
 clear hpg hfr
 go_enter Tryz.func9, Tryz.ntmps9
 go_wp2_with fail
 refine (snap_tells w HE.out).mono ?_
 rintro e wx ⟨rfl, hb1⟩
 have hpl := played_is l a c pg fr 60 (by omega) (by omega) (by omega) wx (HE.out.on hb1) (HR.out.keep (Below.keeps hb1) (fun _ _ h => h))
 rw [show ((60 : Nat) : Int) = 60 from rfl, ← HN.out] at hpl
 have HPL := hid hpl
 have HB := hid hb1
 clear hpl HR HN hb1
 go_wp2_with fail
 refine (picked_at pages 12 pg HPG hp.1 hp.2 (by decide) (by decide) _).mono ?_
 rintro e wd ⟨rfl, rfl⟩
 go_wp2_with fail
 refine (picked_at far 6 fr HFR hf.1 hf.2 (by decide) (by decide) _).mono ?_
 rintro e wd ⟨rfl, rfl⟩
 go_wp2_with fail
 refine HPL.out.mono ?_
 rintro e w1 ⟨S, va_S, vc_S, fa_S, fc_S, oa, ol, oc, rfl, hso, hpd, hb1⟩
 replace HB := hid (HB.out.trans (hb1.mono HB.out.size))
 have HEx := hid (HE.out.on HB.out)
 have O_S := hid hso
 obtain ⟨b, e1, e2, e3, e4, ⟨ec, e5, e6⟩, e7⟩ := back_all hpd
 have HLS : Hid (S.items.length ≤ 1000 ∧ S.flash.pages.length ≤ 20) := hid ⟨hpd.ok.len, pages_few hpd.ok.flash⟩
 have HD1 := hid e1.symm
 have HD2 := hid e4.symm
 have HD3 := hid e6.symm
 have HD4 := hid e7
 obtain ⟨k, hk⟩ : ∃ k, k = b.length := ⟨_, rfl⟩
 rw [← hk] at e2 e3
 have HK := hid hk
 have hec1 : (ec == 0) = false := by simp [e5]
 have hec2 : (ec != 0) = true := by simp [e5]
 clear hb1 hso hpd HPL e1 e4 e5 e6 e7 hk HPG HFR h1 h2
 go_upto_region 4 with (fail)
 obtain ⟨wy, hwy⟩ : ∃ W, W = w1.alloc (.cells (storeV S va_S vc_S fa_S fc_S) 28) := ⟨_, rfl⟩
 obtain ⟨S_S, hS⟩ : ∃ B, B = w1.heap.size := ⟨_, rfl⟩
 have h1 : wy.heap[S_S]? = some (.cells (storeV S va_S vc_S fa_S fc_S) 28 (0, 0)) := by rw [hwy, hS]; exact blk_new w1 _
 have hbn := below_new hwy
 rw [← hwy, ← hS]
 replace O_S := hid (O_S.out.below hbn)
 replace HEx := hid (HEx.out.on hbn)
 replace HB := hid (HB.out.trans (hbn.mono HB.out.size))
 have R_S_S := hid h1
 clear hbn h1 hwy hS
 obtain ⟨wx, rfl⟩ : ∃ wx : World, wx = wy := ⟨_, rfl⟩
 go_wp2_with (refine wpList_load_row rfl 28 _ rfl S_S rfl _ _ _ _ R_S_S.out Tryz.underlying28 rfl (by kernel_rfl) ?_)
 refine (enc_is S b 0 HD1 k HK va_S fa_S vc_S fc_S wx HEx.out.chunks O_S.out.at.items O_S.out.at.pages HLS.out.1 HLS.out.2).mono ?_
 rintro e wn ⟨vb1, vd1, rfl, hby, hl1, hm1, hbn⟩
 replace R_S_S := hid ((hbn.block S_S (blt R_S_S.out)).trans R_S_S.out)
 replace O_S := hid (O_S.out.below hbn)
 replace HEx := hid (HEx.out.on hbn)
 replace HB := hid (HB.out.trans (hbn.mono HB.out.size))
 have BY1 := hid hby
 clear hbn hby
 obtain ⟨wx, rfl⟩ : ∃ wx : World, wx = wn := ⟨_, rfl⟩
 go_wp2_with fail
 refine (decode_is b k S 0 HK HD2 vb1 vd1 wx BY1.out hl1 hm1 HEx.out.chunks).mono ?_
 rintro e wn ⟨va_T, vc_T, fa_T, fc_T, rfl, hi, hf1, hbn⟩
 replace R_S_S := hid ((hbn.block S_S (blt R_S_S.out)).trans R_S_S.out)
 replace O_S := hid (O_S.out.below hbn)
 replace HEx := hid (HEx.out.on hbn)
 replace HB := hid (HB.out.trans (hbn.mono HB.out.size))
 replace BY1 := hid (BY1.out.keep (Below.keeps hbn))
 have HI := hid hi
 have HF := hid hf1
 clear hbn hi hf1
 go_upto_region 6 with (fail)
 obtain ⟨wy, hwy⟩ : ∃ W, W = wn.alloc (.cells (storeV S va_T vc_T fa_T fc_T) 28) := ⟨_, rfl⟩
 obtain ⟨S_T, hS⟩ : ∃ B, B = wn.heap.size := ⟨_, rfl⟩
 have h1 : wy.heap[S_T]? = some (.cells (storeV S va_T vc_T fa_T fc_T) 28 (0, 0)) := by rw [hwy, hS]; exact blk_new wn _
 have hbn := below_new hwy
 rw [← hwy, ← hS]
 replace R_S_S := hid ((hbn.block S_S (blt R_S_S.out)).trans R_S_S.out)
 replace O_S := hid (O_S.out.below hbn)
 replace HEx := hid (HEx.out.on hbn)
 replace HB := hid (HB.out.trans (hbn.mono HB.out.size))
 replace BY1 := hid (BY1.out.keep (Below.keeps hbn))
 replace HI := hid (HI.out.keep (Below.keeps hbn) (fun _ _ h => h))
 replace HF := hid (HF.out.keep (Below.keeps hbn) (PageR.keep (Below.keeps hbn)))
 have R_S_T := hid h1
 clear hbn h1 hwy hS
 obtain ⟨wx, rfl⟩ : ∃ wx : World, wx = wy := ⟨_, rfl⟩
 go_wp2_with (refine wpList_load_row rfl 28 _ rfl S_T rfl _ _ _ _ R_S_T.out Tryz.underlying28 rfl (by kernel_rfl) ?_)
 refine (enc_is S b 0 HD1 k HK va_T fa_T vc_T fc_T wx HEx.out.chunks HI.out HF.out HLS.out.1 HLS.out.2).mono ?_
 rintro e wn ⟨vb2, vd2, rfl, hby, hl2, hm2, hbn⟩
 replace R_S_S := hid ((hbn.block S_S (blt R_S_S.out)).trans R_S_S.out)
 replace R_S_T := hid ((hbn.block S_T (blt R_S_T.out)).trans R_S_T.out)
 replace O_S := hid (O_S.out.below hbn)
 replace HEx := hid (HEx.out.on hbn)
 replace HB := hid (HB.out.trans (hbn.mono HB.out.size))
 replace BY1 := hid (BY1.out.keep (Below.keeps hbn))
 have BY2 := hid hby
 clear hbn hby HI HF O_S
 obtain ⟨wx, rfl⟩ : ∃ wx : World, wx = wn := ⟨_, rfl⟩
 have s1 := run_str BY1.out k vd1 HK.out wx (Keeps.refl _)
 have s2 := run_str BY2.out k vd2 HK.out wx (Keeps.refl _)
 have p1 : wx.cell? ⟨S_S, 8, none⟩ = some (.slice va_S S.items.length vc_S) := cor R_S_S.out rfl
 have p2 : wx.cell? ⟨S_T, 8, none⟩ = some (.slice va_T S.items.length vc_T) := cor R_S_T.out rfl
 go_upto_region 9 with (fail)
 clear s1 s2 p1 p2 BY2 R_S_S R_S_T hl2 hm2
 go_wp2_with fail
 refine (clone_bytes (b.map byteV) k vb1 vd1 wx BY1.out (by rw [List.length_map, Nat.mul_one]; exact HK.out.symm) (by simp [Value.oneCell']) (by omega)).mono ?_
 rintro e wm ⟨v, rfl, how, hbm⟩
 obtain ⟨g, cp, hv, hg1, hg2, hg3, hg4, hgc⟩ := own_shape how (by omega)
 subst hv
 have hwx : w.heap.size ≤ wx.heap.size := HB.out.size
 clear hgc
 have hb7 := below_new (w := wm) (row := .cells #[.int .u8 0] 5) rfl
 have F8 := hid (owns_keptT how (KeptT.below (P := fun _ => True) hb7) trivial)
 have F9 := hid (blk_new wm (.cells #[.int .u8 0] 5))
 have hs7 : wx.heap.size ≤ (wm.alloc (.cells #[.int .u8 0] 5)).heap.size := Nat.le_trans hbm.size hb7.size
 have F10 : Hid (Below wx.heap.size wx (wm.alloc (.cells #[.int .u8 0] 5))) := hbm.trans (hb7.mono hbm.size)
 clear hb7 how hbm
 go_wp2_with (first
  | (at_builtin; go_must (refine list_u8 _ rfl (.tmp 84) (.tmp 85) rfl wx.heap.size k wm.heap.size (.slice (some ⟨g, 0, none⟩) k cp) _ (b.map byteV) rfl rfl F8.out F9.out rfl (by omega) hs7 ?_)))
 intro g2 cp2 wn how2 hgr hat hlt
 have hbn : Below wx.heap.size wx wn := F10.out.grown hgr hs7 (fun b hb => (F8.out.lt b hb).1)
 have BX : Hid (BytesAt wn (some ⟨g2, 0, none⟩) (b ++ [0])) := row_bytes (n := k + 1) (by rw [List.map_append]; exact how2) (by omega)
 have HK1 : Hid (k + 1 = (b ++ [0]).length) := by show _ = _; rw [List.length_append, ← HK.out]; rfl
 obtain ⟨hx1, hx2⟩ := own_cap how2
 replace HEx := hid (HEx.out.on hbn)
 replace HB := hid (HB.out.trans (hbn.mono HB.out.size))
 replace BY1 := hid (BY1.out.keep (Below.keeps hbn))
 clear hbn how2 hgr hat hlt F8 F9 F10 hs7 hwx hg1 hg2 hg3 hg4
 obtain ⟨wx, rfl⟩ : ∃ wx : World, wx = wn := ⟨_, rfl⟩
 go_wp2_with fail
 refine (decode_is (b ++ [0]) (k + 1) Store.zero ec HK1 HD3 (some ⟨g2, 0, none⟩) cp2 wx BX.out hx1 hx2 HEx.out.chunks).mono ?_
 rintro e wn ⟨va_Z, vc_Z, fa_Z, fc_Z, rfl, -, -, hbn⟩
 replace HEx := hid (HEx.out.on hbn)
 replace HB := hid (HB.out.trans (hbn.mono HB.out.size))
 replace BY1 := hid (BY1.out.keep (Below.keeps hbn))
 clear hbn BX HK1 hx1 hx2 HD3
 go_upto_region 10 with (fail)
 obtain ⟨wy, hwy⟩ : ∃ W, W = wn.alloc (.cells (storeV Store.zero va_Z vc_Z fa_Z fc_Z) 28) := ⟨_, rfl⟩
 have hbn := below_new hwy
 rw [← hwy]
 replace HEx := hid (HEx.out.on hbn)
 replace HB := hid (HB.out.trans (hbn.mono HB.out.size))
 replace BY1 := hid (BY1.out.keep (Below.keeps hbn))
 clear hbn hwy
 obtain ⟨wx, rfl⟩ : ∃ wx : World, wx = wy := ⟨_, rfl⟩
 by_cases hy0 : y = 0
 ·subst hy0
  go_wp2_with fail
  go_ret
  exact ⟨rfl, HB.out⟩
 have hy1 : (y == 0) = false := by simp [hy0]
 obtain ⟨jz, hjz⟩ : ∃ t, pick cut (k : Int) = t := ⟨_, rfl⟩
 have hj0 := pick_lt cut (k : Int) (by omega)
 rw [hjz] at hj0
 obtain ⟨j, rfl⟩ : ∃ j : Nat, jz = (j : Int) := ⟨jz.toNat, by omega⟩
 have HJ := hid hjz
 have hj1 : (j : Int) < (k : Int) := hj0.2
 have hjl : j < b.length := by rw [← HK.out]; omega
 obtain ⟨z, xn, hz0, hxn, hz1⟩ := u8_add b[j] y ⟨by omega, hy.2⟩
 obtain ⟨ed, ed0, hd⟩ := HD4.out j z hjl hz0
 have HD5 := hid hd.symm
 have HJL := hid hjl
 have HX := hid hxn
 have HZ := hid hz1
 have hed : (ed != 0) = true := by simp [ed0]
 clear hjz hj0 hz0 hz1 hd hxn HD4 hy0
 go_wp2_with fail
 refine (clone_bytes (b.map byteV) k vb1 vd1 wx BY1.out (by rw [List.length_map, Nat.mul_one]; exact HK.out.symm) (by simp [Value.oneCell']) (by omega)).mono ?_
 rintro e wm ⟨v, rfl, how, hbm⟩
 obtain ⟨g, cp, hv, hg1, hg2, hg3, hg4, hgc⟩ := own_shape how (by omega)
 subst hv
 have hwx : w.heap.size ≤ wx.heap.size := HB.out.size
 have BG : Hid (BytesAt wm (some ⟨g, 0, none⟩) b) := row_bytes how (by omega)
 have fz : ∀ i, wm.frozen? ⟨g, i, none⟩ = false := row_free how
 have hcj : wm.cell? ⟨g, j, none⟩ = some (.int .u8 xn) := by
  obtain ⟨b', o, he, hc⟩ := BG.out.pos (by have := HJL.out; omega)
  cases he
  have := hc j HJL.out
  rw [Nat.zero_add] at this
  rw [HX.out]
  exact this
 have HBM := hid hbm
 clear hgc how hbm
 go_wp2_with fail
 refine (picked_at cut k j HJ hct.1 hct.2 (by omega) (by omega) _).mono ?_
 rintro e wd ⟨rfl, rfl⟩
 go_upto_region 14 with (fail)
 rw [HZ.out]
 obtain ⟨wn, hwn⟩ : ∃ W, W = wm.setCell ⟨g, j, none⟩ (byteV z) := ⟨_, rfl⟩
 have BX : Hid (BytesAt wn (some ⟨g, 0, none⟩) (b.set j z)) := by show BytesAt _ _ _; rw [hwn]; exact bytes_set BG.out HJL.out
 have hbn : Below wx.heap.size wx wn := by rw [hwn]; exact HBM.out.setCell (p := ⟨g, j, none⟩) hg1 _
 have HK1 : Hid (k = (b.set j z).length) := by show _ = _; rw [List.length_set]; exact HK.out
 rw [← hwn]
 replace HEx := hid (HEx.out.on hbn)
 replace HB := hid (HB.out.trans (hbn.mono HB.out.size))
 replace BY1 := hid (BY1.out.keep (Below.keeps hbn))
 clear hbn hwn BG fz hcj HBM HJ HX HZ HJL
 have hg5 : cp ≤ 9223372036854775807 := le_maxLen hg4
 obtain ⟨wx, rfl⟩ : ∃ wx : World, wx = wn := ⟨_, rfl⟩
 go_wp2_with fail
 refine (decode_is (b.set j z) k Store.zero ed HK1 HD5 (some ⟨g, 0, none⟩) cp wx BX.out hg3 hg5 HEx.out.chunks).mono ?_
 rintro e wn ⟨va_Y, vc_Y, fa_Y, fc_Y, rfl, -, -, hbn⟩
 replace HEx := hid (HEx.out.on hbn)
 replace HB := hid (HB.out.trans (hbn.mono HB.out.size))
 replace BY1 := hid (BY1.out.keep (Below.keeps hbn))
 clear hbn BX HK1
 go_upto_region 15 with (fail)
 obtain ⟨wy, hwy⟩ : ∃ W, W = wn.alloc (.cells (storeV Store.zero va_Y vc_Y fa_Y fc_Y) 28) := ⟨_, rfl⟩
 have hbn := below_new hwy
 rw [← hwy]
 replace HEx := hid (HEx.out.on hbn)
 replace HB := hid (HB.out.trans (hbn.mono HB.out.size))
 replace BY1 := hid (BY1.out.keep (Below.keeps hbn))
 clear hbn hwy
 obtain ⟨wx, rfl⟩ : ∃ wx : World, wx = wy := ⟨_, rfl⟩
 go_wp2_with fail
 go_ret
 exact ⟨rfl, HB.out⟩
section
variable {H : Type} {enc : TypeId × Value → H} {w : World}
theorem bytes_raw : Tryz.prog.bytesOf 50 = 32 := by kernel_rfl
instance : Inhabited (Int × Int × Int × Int) := ⟨(0, 0, 0, 0)⟩
theorem read_raw {f : Nat} {cs : List Value} {y : DataW H × List MemPlace} (h : DataW.trod enc Tryz.prog w 0 (fun _ => true) true f 50 cs = some y) : ∃ r, rawR cs r := by
 obtain ⟨xs, n, _, _, hl, hx, hf⟩ := DataW.trod_struct Tryz.underlying50 h
 obtain ⟨c0, c1, c2, c3, rfl⟩ := four (hl.trans (by kernel_rfl))
 obtain ⟨y0, y1, y2, y3, rfl⟩ := four hx
 have h0 := hf 0 _ rfl
 have h1 := hf 1 _ rfl
 have h2 := hf 2 _ rfl
 have h3 := hf 3 _ rfl
 simp [cells_int] at h0 h1 h2 h3
 obtain ⟨n0, e0, b0⟩ := read_i64 Tryz.underlying3 h0
 obtain ⟨n1, e1, b1⟩ := read_i64 Tryz.underlying3 h1
 obtain ⟨n2, e2, b2⟩ := read_i64 Tryz.underlying3 h2
 obtain ⟨n3, e3, b3⟩ := read_i64 Tryz.underlying3 h3
 cases e0; cases e1; cases e2; cases e3
 exact ⟨(n0, n1, n2, n3), rfl, b0, b1, b2, b3⟩
end
set_option maxRecDepth 100000 in
theorem enters {H : Type} {enc : TypeId × Value → H} {W : World} {base : Nat} {args : Array Value} {ds : List (DataW H)} {p : List MemPlace}
  (hval : ∀ (j : Nat) t v, Tryz.f9.params[j]? = some t → args[j]? = some v → Value.okWide Tryz.prog W .any base t v)
  (hA : DataW.TrodAll enc Tryz.prog W 0 (fun _ => true) true Tryz.f9.params.toList args.toList ds p) (hsz : ∀ m ∈ DataW.weightsEach Tryz.prog Tryz.f9.params.toList ds, m ≤ reachBytes) (hL : laidMetH Tryz.prog Rows.snapsBackRow.laid W) :
  Calls Tryz.prog 9 args W fun e W' => e = .returned (.bool true) ∧ Below W.heap.size W W' := by
 rw [Tryz.params9] at hA hval hsz
 obtain ⟨v0, vs0, d0, ds0, p0, q0, hargs, rfl, rfl, h0, r0⟩ := trodAll_cons hA
 obtain ⟨v1, vs1, d1, ds1, p1, q1, hargs1, rfl, rfl, h1, r1⟩ := trodAll_cons r0
 obtain ⟨v2, vs2, d2, ds2, p2, q2, hargs2, rfl, rfl, h2, r2⟩ := trodAll_cons r1
 obtain ⟨v3, vs3, d3, ds3, p3, q3, hargs3, rfl, rfl, h3, r3⟩ := trodAll_cons r2
 obtain ⟨v4, vs4, d4, ds4, p4, q4, hargs4, rfl, rfl, h4, r4⟩ := trodAll_cons r3
 obtain ⟨rfl, rfl, rfl⟩ := trodAll_nil r4
 obtain rfl : args = #[v0, v1, v2, v3, v4] := by cases args; simp_all
 obtain ⟨a0, n0, c0, rfl⟩ := okWide_slice Tryz.underlying42 (hval 0 42 v0 rfl rfl)
 obtain ⟨fuel, hf⟩ := h0
 obtain ⟨a, len, c, l, he, hll, hlc, hcm, hrow⟩ := read_slice (v := .slice a0 n0 c0) (n := 4) rawR Tryz.underlying42 (by kernel_rfl) (by omega) (fun f cs y hy _ => read_raw hy) hf (Wt.all hsz 0 rfl rfl)
 cases he
 subst hll
 obtain ⟨y1, rfl, rfl, rfl, g1⟩ := open_int Tryz.underlying3 (hval 1 3 v1 rfl rfl) h1
 obtain ⟨y2, rfl, rfl, rfl, g2⟩ := open_int Tryz.underlying3 (hval 2 3 v2 rfl rfl) h2
 obtain ⟨y3, rfl, rfl, rfl, g3⟩ := open_int Tryz.underlying3 (hval 3 3 v3 rfl rfl) h3
 obtain ⟨y4, rfl, rfl, rfl, g4⟩ := open_int Tryz.underlying5 (hval 4 5 v4 rfl rfl) h4
 exact walk l a0 c0 y1 y2 y3 y4 (bounds_i64 g1) (bounds_i64 g2) (bounds_i64 g3) (bounds_u8 g4) W (env_of hL) hrow

set_option maxRecDepth 100000 in
theorem contract {H : Type} {enc : TypeId × Value → H} {W : World} {base : Nat} {args : Array Value} {ds gs : List (DataW H)} {before : List MemPlace}
  (hval0 : ∀ (j : Nat) t v, Tryz.f9.params[j]? = some t → args[j]? = some v → Value.okWide Tryz.prog W .any base t v)
  (hW : DataW.Whole enc Tryz.prog Tryz.f9.params.toList Rows.snapsBackSpec.vars false W args.toList ds gs before)
  (hsz0 : (DataW.weightsEach Tryz.prog (Tryz.f9.params.toList ++ []) (ds ++ gs)).all (· ≤ reachBytes) = true) (hL : laidMetH Tryz.prog Rows.snapsBackRow.laid W) :
  Calls Tryz.prog 9 args W fun e W' => ∃ v, e = .returned v ∧ Rows.snapsBackSpec.post enc Tryz.prog Tryz.f9 false true false false W args v W' := by
 have hval : ∀ (j : Nat) t v, Tryz.f9.params[j]? = some t → args[j]? = some v → Value.okWide Tryz.prog W .any base t v := hval0
 have hW' := hW
 obtain ⟨p, q, hA0, hV, rfl, hfz, hnd⟩ := hW
 have hA : DataW.TrodAll enc Tryz.prog W 0 (fun _ => true) true Tryz.f9.params.toList args.toList ds p := hA0
 obtain ⟨rfl, rfl⟩ := trodVars_none hV
 have hsz : ∀ m ∈ DataW.weightsEach Tryz.prog Tryz.f9.params.toList ds, m ≤ reachBytes := by
  have h0 := hsz0
  rw [List.append_nil, List.append_nil] at h0
  intro m hm
  simpa using List.all_eq_true.1 h0 m hm
 have hds : Rows.snapsBackSpec.fn H (ds ++ []) = { results := [.lit (.bool true)], args := ds } := by
  have hA1 := hA
  rw [Tryz.params9] at hA1
  obtain ⟨v0, vs0, d0, ds0, p0, q0, _, rfl, rfl, h0, r0⟩ := trodAll_cons hA1
  obtain ⟨v1, vs1, d1, ds1, p1, q1, _, rfl, rfl, h1, r1⟩ := trodAll_cons r0
  obtain ⟨v2, vs2, d2, ds2, p2, q2, _, rfl, rfl, h2, r2⟩ := trodAll_cons r1
  obtain ⟨v3, vs3, d3, ds3, p3, q3, _, rfl, rfl, h3, r3⟩ := trodAll_cons r2
  obtain ⟨v4, vs4, d4, ds4, p4, q4, _, rfl, rfl, h4, r4⟩ := trodAll_cons r3
  obtain ⟨_, rfl, rfl⟩ := trodAll_nil r4
  rfl
 refine (enters hval hA hsz hL).mono fun e W' ⟨he, hb⟩ => ⟨_, he, D.law_post rfl rfl hds (by kernel_rfl) hW' hb⟩
theorem laid_met (os : Os) : laidMet Tryz.prog Rows.snapsBackRow.laid ((D.laidWorldS os).forCall (fun _ _ => 0) ⟨#[], #[.slice none 0 0, .int .i64 0, .int .i64 0, .int .i64 0, .int .u8 0], []⟩).memory :=
 laidMet_of_run' 12 (by kernel_rfl) (by kernel_rfl)
theorem reads (os : Os) {H : Type} (enc : TypeId × Value → H) : ∃ places, DataW.whole enc Tryz.prog ((D.laidWorldS os).forCall (fun _ _ => 0) ⟨#[], #[.slice none 0 0, .int .i64 0, .int .i64 0, .int .i64 0, .int .u8 0], []⟩).memory Tryz.f9.params.toList Rows.snapsBackSpec.vars false (#[.slice none 0 0, .int .i64 0, .int .i64 0, .int .i64 0, .int .u8 0] : Array Value).toList 12 = some ([.nil, .lit (.int .i64 0), .lit (.int .i64 0), .lit (.int .i64 0), .lit (.int .u8 0)], [], places) :=
 ⟨[], by kernel_rfl⟩
set_option maxRecDepth 100000 in
theorem lifted (os : Os) (started : os.Started) (H : Type) (enc : TypeId × Value → H) (F : Stop.Interp) :
  ReturnsInHanded {} Tryz.checked os 9 .any ((OpenSpec.ofChange Rows.snapsBackSpec).preRow enc Tryz.prog Tryz.f9 Rows.snapsBackRow.domain false Rows.snapsBackRow.laid) (((OpenSpec.ofChange Rows.snapsBackSpec).at F).post enc Tryz.prog Tryz.f9 false true false false) := by
 obtain ⟨places, hx⟩ := reads os enc
 refine returnsInHanded_of_row (C := Tryz.checked) (s := OpenSpec.ofChange Rows.snapsBackSpec) D.own started (by kernel_rfl) Tryz.func9
  (witness_row_at (enc := enc) (C := Tryz.checked) false (D.laidWorldS os) #[.slice none 0 0, .int .i64 0, .int .i64 0, .int .i64 0, .int .u8 0] rfl (by kernel_rfl) (by kernel_rfl) (by kernel_rfl)
   (OpenSpec.preRow_of_cond 12 hx (by kernel_rfl) (fun k hk => by cases hk) (by kernel_rfl) (laid_met os))) ?_
 intro W base args ds gs before hval hW _ _ hsz hL _ _
 exact contract hval hW hsz hL
theorem said : Rows.SnapsBackSaid :=
 OpenClaim.holds_of_cond 9 Tryz.f9 rfl rfl rfl rfl rfl rfl rfl ⟨rfl, rfl, rfl, rfl, rfl⟩ rfl rfl rfl rfl rfl (by kernel_rfl) Tryz.func9 (by kernel_rfl)
  (of_decide_eq_true (by kernel_rfl)) (by unfold Func.isWrapper; first | (rw [if_pos (by decide +kernel)]; kernel_rfl) | (rw [if_neg (by decide +kernel)]; exact ⟨rfl, rfl⟩))
  (fun os started H enc _ F => by rw [OpenClaim.pre_eq_preRow]; exact lifted os started H enc F)
theorem plain (f : FuncId) (fn : Func) (hf : Tryz.pinned.checked.prog.funcNamed "dovecote/dovecotekeep.SnapsBack" = some f) (hfn : Tryz.pinned.checked.prog.funcs[f]? = some fn) :
  true = Tryz.pinned.checked.prog.looks [] ∧ ∀ (j : Nat) t, fn.params[j]? = some t → Tryz.pinned.checked.prog.wantsStandIn t = false := by
 obtain rfl : f = 9 := Option.some.inj ((show Tryz.prog.funcNamed "dovecote/dovecotekeep.SnapsBack" = some 9 by kernel_rfl).symm.trans hf) |>.symm
 obtain rfl : fn = Tryz.f9 := (Option.some.inj (Tryz.func9.symm.trans hfn)).symm
 refine ⟨by kernel_rfl, fun j t ht => ?_⟩
 rw [Tryz.params9] at ht
 have k0 : Tryz.pinned.checked.prog.wantsStandIn 42 = false := by kernel_rfl
 have k1 : Tryz.pinned.checked.prog.wantsStandIn 3 = false := by kernel_rfl
 have k2 : Tryz.pinned.checked.prog.wantsStandIn 5 = false := by kernel_rfl
 have hh : t = 42 ∨ t = 3 ∨ t = 5 := by simpa using Array.mem_of_getElem? ht
 rcases hh with rfl | rfl | rfl
 ·exact k0
 ·exact k1
 ·exact k2
theorem card : Rows.SnapsBackCardSaid :=
 Claim7.holds_tied_plain_at .later [] _ _ _ _ said (fun _ h => by cases h) (by kernel_rfl) (fun _ h => by cases h) snapsBack_row_tie rfl ⟨rfl, rfl⟩ (by kernel_rfl) rfl plain (by kernel_rfl)
end Go.Proofs.YtbeegfkfpkfccaaGreatDoor.snapsBack

