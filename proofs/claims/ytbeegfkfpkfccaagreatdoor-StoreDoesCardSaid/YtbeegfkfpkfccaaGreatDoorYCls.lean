/-
 Contracts: store.Class and ref.ClassOf tell the class of a key and a value of so many bytes. Condition: the table of chunks holds its four numbers.
-/
import Derived.Test.YtbeegfkfpkfccaaGreatDoorYBase
import Derived.Test.YtbeegfkfpkfccaaGreatDoorYPlain
namespace Go.Proofs.YtbeegfkfpkfccaaGreatDoor.D
open Go.RowKit
def chunkAt : Nat → Int
 | 0 => 32
 | 1 => 64
 | 2 => 128
 | _ => 256
def Chunks (w : World) : Prop := ∀ i, i < 4 → w.cell? ⟨0, i, none⟩ = some (.int .i64 (chunkAt i))
theorem Chunks.keep {w w' : World} (h : Chunks w) (k : Keeps w w') : Chunks w' := fun i hi => k _ _ (h i hi)
theorem chunkAt_range (k : Nat) : 32 ≤ chunkAt k ∧ chunkAt k ≤ 256 := by unfold chunkAt; split <;> omega
theorem cls_hit {key val : Int} {k : Nat} (h : 1 ≤ key ∧ key ≤ 20 ∧ 0 ≤ val ∧ val ≤ 200) (hk : k < 4) (hlt : ∀ j, j < k → chunkAt j < 8 + key + val) (hle : 8 + key + val ≤ chunkAt k) : classOf key val = k := by
 rw [classOf_good h]
 match k, hk with
 | 0, _ => rw [if_pos (by have : chunkAt 0 = 32 := rfl; omega)]; rfl
 | 1, _ =>
  have h0 := hlt 0 (by omega);have : chunkAt 0 = 32 := rfl;have : chunkAt 1 = 64 := rfl;rw [if_neg (by omega), if_pos (by omega)]; rfl
 | 2, _ =>
  have h1 := hlt 1 (by omega);have : chunkAt 1 = 64 := rfl;have : chunkAt 2 = 128 := rfl;rw [if_neg (by omega), if_neg (by omega), if_pos (by omega)]; rfl
 | 3, _ =>
  have h1 := hlt 2 (by omega);have : chunkAt 2 = 128 := rfl;rw [if_neg (by omega), if_neg (by omega), if_neg (by omega)]; rfl
theorem in_dec (n lo hi : Int) (t : Bool) (ht : Hid (t = decide (lo ≤ n ∧ n ≤ hi))) (w : World) : Calls Tryz.prog 58 #[.int .i64 n, .int .i64 lo, .int .i64 hi] w fun e w' => e = .returned (.bool t) ∧ w = w' := by
 have h : t = decide (lo ≤ n ∧ n ≤ hi) := ht.out
 by_cases h1 : lo ≤ n
 ·by_cases h2 : n ≤ hi
  ·have ht2 : t = true := by rw [h]; simp [h1, h2]
   subst ht2;clear h ht
   go_enter Tryz.func58, Tryz.ntmps58
   go_wp2
   go_ret;exact ⟨rfl, rfl⟩
  ·have ht2 : t = false := by rw [h]; simp [h2]
   subst ht2;clear h ht
   go_enter Tryz.func58, Tryz.ntmps58
   go_wp2
   go_ret;exact ⟨rfl, rfl⟩
 ·have ht2 : t = false := by rw [h]; simp [h1]
  subst ht2;clear h ht
  go_enter Tryz.func58, Tryz.ntmps58
  go_wp2
  go_ret;exact ⟨rfl, rfl⟩
theorem chunk_lit (n key val : Int) (g1 g2 : Nat) (w : World) (h1 : w.cell? ⟨g1, 0, none⟩ = some (.int .i64 key)) (h2 : w.cell? ⟨g2, 0, none⟩ = some (.int .i64 val)) (hk : 1 ≤ key ∧ key ≤ 20) (hv : 0 ≤ val ∧ val ≤ 200) :
  Calls Tryz.prog 104 #[.int .i64 n, .pointer (some ⟨g1, 0, none⟩), .pointer (some ⟨g2, 0, none⟩)] w fun e w' => e = .returned (.bool (decide (8 + key + val ≤ n))) ∧ w = w' := by
 obtain ⟨hk1, hk2⟩ := hk;obtain ⟨hv1, hv2⟩ := hv
 go_enter Tryz.func104, Tryz.ntmps104
 go_wp2_with fail
 go_ret;exact ⟨rfl, rfl⟩
def IdxC (c : Int) (w : World) (e : Ending) (w' : World) : Prop := e = .returned (.int .i64 c) ∧ Below w.heap.size w w'
set_option maxHeartbeats 1000000 in
theorem index_chunk (key val : Int) (g1 g2 : Nat) (w : World) (hc : Chunks w) (h1 : w.cell? ⟨g1, 0, none⟩ = some (.int .i64 key)) (h2 : w.cell? ⟨g2, 0, none⟩ = some (.int .i64 val)) (h : 1 ≤ key ∧ key ≤ 20 ∧ 0 ≤ val ∧ val ≤ 200) :
  Calls Tryz.prog 103 #[.slice (some ⟨0, 0, none⟩) 4 4, .func (.func 104) #[] #[.pointer (some ⟨g1, 0, none⟩), .pointer (some ⟨g2, 0, none⟩)]] w (IdxC (classOf key val) w) := by
 have HC := hid hc;have H1 := hid h1;have H2 := hid h2;have HG := hid h;obtain ⟨hk1, hk2, hv1, hv2⟩ := h;clear hc h1 h2
 go_enter Tryz.func103, Tryz.ntmps103
 go_wp2_with fail
 go_loopw [8] (fun i wr => ∃ k : Nat, k ≤ 4 ∧ i = .int .i64 k ∧ Below w.heap.size w wr ∧ Hid (∀ j, j < k → chunkAt j < 8 + key + val)) (fun i _ => 4 - (intOf i).toNat)
 case atStart => exact ⟨0, by omega, rfl, Below.refl _ _, fun j hj => absurd hj (Nat.not_lt_zero _)⟩
 case round =>
  obtain ⟨k, hk, rfl, hb, hlt⟩ := hrel
  by_cases hk4 : k < 4
  ·have hkp := Below.keeps hb
   have c0 := hkp _ _ (HC.out k hk4);have c1 := hkp _ _ H1.out;have c2 := hkp _ _ H2.out;obtain ⟨n, hn⟩ : ∃ n, n = chunkAt k := ⟨_, rfl⟩;rw [← hn] at c0;have HN := hid hn;clear hn hkp
   by_cases ht : 8 + key + val ≤ n
   ·have htt : decide (8 + key + val ≤ n) = true := by simpa using ht
    go_wp2_with fail
    refine (chunk_lit n key val g1 g2 _ c1 c2 ⟨hk1, hk2⟩ ⟨hv1, hv2⟩).mono ?_;rintro e w2 ⟨rfl, rfl⟩
    go_wp2_with fail
    go_ret;exact ⟨by rw [cls_hit HG.out hk4 hlt.out (by rw [← HN.out]; exact ht)]; rfl, hb⟩
   ·have htt : decide (8 + key + val ≤ n) = false := by simpa using ht
    go_wp2_with fail
    refine (chunk_lit n key val g1 g2 _ c1 c2 ⟨hk1, hk2⟩ ⟨hv1, hv2⟩).mono ?_;rintro e w2 ⟨rfl, rfl⟩
    go_wp2_with fail
    have hlt2 : Hid (∀ j, j < k + 1 → chunkAt j < 8 + key + val) := fun j hj => by
     by_cases hjk : j = k
     ·subst hjk; rw [← HN.out]; omega
     ·exact hlt.out j (by omega)
    go_roundw
    case rel => exact ⟨k + 1, by omega, by go_num, hb, hlt2⟩
    case measure => simp [intOf]; omega
  ·exfalso
   have := hlt.out 3 (by omega);have h3 : chunkAt 3 = 256 := rfl;omega
set_option maxHeartbeats 1000000 in
theorem store_Class (key val : Int) (w : World) (hc : Chunks w) : Calls Tryz.prog 76 #[.int .i64 key, .int .i64 val] w (IdxC (classOf key val) w) := by
 have HC := hid hc;clear hc
 by_cases h : 1 ≤ key ∧ key ≤ 20 ∧ 0 ≤ val ∧ val ≤ 200
 ·have HG := hid h
  obtain ⟨hk1, hk2, hv1, hv2⟩ := h
  go_enter Tryz.func76, Tryz.ntmps76
  go_wp2_with fail
  refine (index_chunk key val w.heap.size (w.heap.size + 1) _ (HC.out.keep (Below.keeps (by go_grown))) (by go_simp) (by go_simp) HG.out).mono ?_;rintro e w2 ⟨rfl, hb⟩
  go_wp2_with fail
  go_ret;exact ⟨rfl, Below.trans (by go_grown) (hb.mono (by go_size))⟩
 ·have HB : Hid (classOf key val = -1) := classOf_bad h
  have hcase : key < 1 ∨ (1 ≤ key ∧ 20 < key) ∨ (1 ≤ key ∧ key ≤ 20 ∧ val < 0) ∨ (1 ≤ key ∧ key ≤ 20 ∧ 0 ≤ val ∧ 200 < val) := by omega
  clear h
  rcases hcase with h | ⟨h, h2⟩ | ⟨h, h2, h3⟩ | ⟨h, h2, h3, h4⟩
  all_goals
   go_enter Tryz.func76, Tryz.ntmps76
   go_wp2_with fail
   go_ret;exact ⟨by rw [HB.out]; rfl, by go_grown⟩
theorem ref_sizeOf (c : Nat) (w : World) (h : c < 4) : Calls Tryz.prog 63 #[.int .i64 c] w (IdxC (chunkAt c) w) := by
 have hc : c = 0 ∨ c = 1 ∨ c = 2 ∨ c = 3 := by omega
 clear h
 rcases hc with rfl | rfl | rfl | rfl
 all_goals
  go_enter Tryz.func63, Tryz.ntmps63
  go_wp2_with fail
  go_ret;exact ⟨rfl, by go_grown⟩
set_option maxHeartbeats 1000000 in
theorem ref_ClassOf (key val : Int) (w : World) : Calls Tryz.prog 95 #[.int .i64 key, .int .i64 val] w (IdxC (classOf key val) w) := by
 by_cases h : 1 ≤ key ∧ key ≤ 20 ∧ 0 ≤ val ∧ val ≤ 200
 ·have HG := hid h
  obtain ⟨hk1, hk2, hv1, hv2⟩ := h
  go_enter Tryz.func95, Tryz.ntmps95
  go_wp2_with fail
  refine (in_dec key 1 20 true (by show true = decide _; simp [hk1, hk2]) _).mono ?_;rintro e w2 ⟨rfl, rfl⟩
  go_wp2_with fail
  refine (in_dec val 0 200 true (by show true = decide _; simp [hv1, hv2]) _).mono ?_;rintro e w2 ⟨rfl, rfl⟩
  go_wp2_with fail
  go_loopw [5] (fun i wr => ∃ k : Nat, k < 4 ∧ i = .int .i64 k ∧ Below w.heap.size w wr ∧ Hid (∀ j, j < k → chunkAt j < 8 + key + val)) (fun i _ => 4 - (intOf i).toNat)
  case atStart => exact ⟨0, by omega, rfl, Below.refl _ _, fun j hj => absurd hj (Nat.not_lt_zero _)⟩
  case round =>
   obtain ⟨k, hk, rfl, hb, hlt⟩ := hrel;obtain ⟨n, hn⟩ : ∃ n, n = chunkAt k := ⟨_, rfl⟩;have hr := chunkAt_range k;rw [← hn] at hr;obtain ⟨hr1, hr2⟩ := hr;have HN := hid hn;clear hn
   by_cases ht : 8 + key + val ≤ n
   ·go_wp2_with fail
    refine (ref_sizeOf k _ hk).mono ?_;rintro e w2 ⟨rfl, hb2⟩;rw [← HN.out]
    go_wp2_with fail
    go_ret;exact ⟨by rw [cls_hit HG.out hk hlt.out (by rw [← HN.out]; exact ht)]; rfl, hb.trans (hb2.mono hb.size)⟩
   ·go_wp2_with fail
    refine (ref_sizeOf k _ hk).mono ?_;rintro e w2 ⟨rfl, hb2⟩;rw [← HN.out]
    have hk3 : k < 3 := by
     rcases Nat.lt_or_ge k 3 with h | h
     ·exact h
     ·have h3 : k = 3 := by omega
      have : n = 256 := by rw [HN.out, h3]; rfl
      omega
    have hlt2 : Hid (∀ j, j < k + 1 → chunkAt j < 8 + key + val) := fun j hj => by
     by_cases hjk : j = k
     ·subst hjk; rw [← HN.out]; omega
     ·exact hlt.out j (by omega)
    have hb3 : Below w.heap.size w w2 := hb.trans (hb2.mono hb.size);clear hb hb2
    go_wp2_with fail
    go_roundw
    case rel => exact ⟨k + 1, by omega, by go_num, hb3, hlt2⟩
    case measure => simp [intOf]; omega
 ·have HB : Hid (classOf key val = -1) := classOf_bad h
  by_cases h1 : 1 ≤ key ∧ key ≤ 20
  ·have h2 : ¬ (0 ≤ val ∧ val ≤ 200) := fun h2 => h ⟨h1.1, h1.2, h2.1, h2.2⟩
   have H1 : Hid (true = decide (1 ≤ key ∧ key ≤ 20)) := by show true = decide _; simp [h1]
   have H2 : Hid (false = decide (0 ≤ val ∧ val ≤ 200)) := by show false = decide _; exact (decide_eq_false h2).symm
   clear h h1 h2
   go_enter Tryz.func95, Tryz.ntmps95
   go_wp2_with fail
   refine (in_dec key 1 20 true H1 _).mono ?_;rintro e w2 ⟨rfl, rfl⟩
   go_wp2_with fail
   refine (in_dec val 0 200 false H2 _).mono ?_;rintro e w2 ⟨rfl, rfl⟩
   go_wp2_with fail
   go_ret;exact ⟨by rw [HB.out]; rfl, Below.refl _ _⟩
  ·have H1 : Hid (false = decide (1 ≤ key ∧ key ≤ 20)) := by show false = decide _; exact (decide_eq_false h1).symm
   clear h h1
   go_enter Tryz.func95, Tryz.ntmps95
   go_wp2_with fail
   refine (in_dec key 1 20 false H1 _).mono ?_;rintro e w2 ⟨rfl, rfl⟩
   go_wp2_with fail
   go_ret;exact ⟨by rw [HB.out]; rfl, Below.refl _ _⟩
def InClsEnd (l : List Item) (q : Int) (w : World) (e : Ending) (w' : World) : Prop := e = .returned (.tuple #[.int .i64 (countIn l q), .int .i64 (lastTo l q l.length)]) ∧ Below w.heap.size w w'
theorem cls_far {x : Item} {q : Int} (h : x.far = true) : inCls x q = false := by unfold inCls; rw [h]; rfl
theorem cls_near {x : Item} {q : Int} (h : x.far = false) : inCls x q = (x.cls == q) := by unfold inCls; rw [h]; rfl
theorem class_is (key val q : Int) (hq : Hid (q = classOf key val)) (w : World) : Calls Tryz.prog 95 #[.int .i64 key, .int .i64 val] w (IdxC q w) := by
 have := ref_ClassOf key val w
 rwa [← hq.out] at this
theorem item_used {w w' : World} {b o : Nat} {l : List Item} (hk : Keeps w w') (h : ∀ i (h : i < l.length), ∃ cs, cs.length = 9 ∧ ItemR cs l[i] ∧ ∀ j v, cs[j]? = some v → w.cell? ⟨b, o + i * 9 + j, none⟩ = some v) (m : Nat) (hm : m < l.length) :
  w'.cell? ⟨b, o + m * 9 + 4, none⟩ = some (.int .i64 l[m].used) := by
 obtain ⟨cs, _, hR, h3⟩ := h m hm;rw [hR.1] at h3;exact hk _ _ (h3 4 _ rfl)
set_option maxHeartbeats 2000000 in
set_option maxRecDepth 100000 in
theorem ref_inClass (s : Store) (q : Int) (a fa : Option Addr) (c fc : Nat) (w : World) (hI : RowsAt w a 9 ItemR s.items) (hl : s.items.length ≤ 9223372036854775806) :
  Calls Tryz.prog 62 #[.agg (storeV s a c fa fc), .int .i64 q] w (InClsEnd s.items q w) := by
 have HI := hid hI;clear hI
 go_enter Tryz.func62, Tryz.ntmps62
 go_wp2_with fail
 go_loopw [6, 7, 8] (fun n m i wr => ∃ k : Nat, ∃ nn mm : Int, k ≤ s.items.length ∧ i = .int .i64 k ∧ n = .int .i64 nn ∧ m = .int .i64 mm ∧ 0 ≤ nn ∧ nn ≤ k ∧ -1 ≤ mm ∧ mm < k ∧ Hid (nn = countIn (s.items.take k) q) ∧ Hid (mm = lastTo s.items q k) ∧ Below w.heap.size w wr ∧
  wr.cell? ⟨w.heap.size, 8, none⟩ = some (.slice a s.items.length c)) (fun _ _ i _ => s.items.length - (intOf i).toNat)
 case atStart => exact ⟨0, 0, -1, Nat.zero_le _, rfl, rfl, rfl, by omega, by omega, by omega, by omega, by show _ = _; rw [countIn_zero], rfl, by go_grown, by go_simp⟩
 case round =>
  obtain ⟨k, nn, mm, hk, rfl, rfl, rfl, n0, n1, m0, m1, HN, HM, hb, hx⟩ := hrel
  by_cases hlt : k < s.items.length
  ·obtain ⟨b, o, rfl, hc⟩ := HI.out.pos (by omega)
   obtain ⟨cs, _, hcs, h3⟩ := hc k hlt;have HU := hid (item_used (Below.keeps hb) hc);have HS := hid (countIn_step (c := q) hlt);have L1 := hid (fun h => lastTo_skip (c := q) hlt h);have L2 := hid (fun h => lastTo_first (c := q) hlt h);have L3 := hid (fun m h => lastTo_less (c := q) (m := m) hlt h);have L4 := hid (fun m h => lastTo_more (c := q) (m := m) hlt h);obtain ⟨x, hxx⟩ : ∃ x, x = s.items[k] := ⟨_, rfl⟩;rw [← hxx] at hcs HS L1 L2 L3 L4;have hcs := hcs.1;subst hcs;obtain ⟨c0, c1, c2, c3, c4, c5, c6, c7, c8, hbb⟩ := item_cells (Below.keeps hb) h3;have hz := cell_lt hx;obtain ⟨far, hfar⟩ : ∃ b, b = x.far := ⟨_, rfl⟩;rw [← hfar] at c6;obtain ⟨ux, hux⟩ : ∃ u, u = x.used := ⟨_, rfl⟩;rw [← hux] at c4 L3 L4;have HFAR := hid hfar;clear h3 hc hxx HI hfar hux
   cases far
   ·
    obtain ⟨cl, hcl⟩ : ∃ n, n = classOf x.key.size x.value.size := ⟨_, rfl⟩;have HCL := hid hcl;have HIC : Hid (inCls x q = (cl == q)) := by show _ = _; rw [cls_near HFAR.out.symm, HCL.out]; rfl
    clear hcl
    go_wp2_with fail
    refine (class_is _ _ cl HCL _).mono ?_;rintro e w1 ⟨rfl, hb2⟩;have hbw : Below w.heap.size w w1 := (hb.alloc hb.size _).trans (hb2.mono (by have := hb.size; go_size));have hx1 : w1.cell? ⟨w.heap.size, 8, none⟩ = some (.slice (some ⟨b, o, none⟩) s.items.length c) := (hb2.cell (p := ⟨w.heap.size, 8, none⟩) (by go_size)).trans (by go_simp);have hu1 : w1.cell? ⟨wr.heap.size, 4, none⟩ = some (.int .i64 ux) := (hb2.cell (p := ⟨wr.heap.size, 4, none⟩) (by go_size)).trans (by go_simp)
    have HU1 : Hid (∀ (m : Nat) (hm : m < s.items.length), w1.cell? ⟨b, o + m * 9 + 4, none⟩ = some (.int .i64 s.items[m].used)) := fun m hm => by
     have := HU.out m hm;have hlt := cell_lt this;exact (hb2.cell (p := ⟨b, o + m * 9 + 4, none⟩) (by go_size)).trans ((World.cell?_alloc_lt _ _ _ (by exact hlt)).trans this)
    clear hb hb2 hx c0 c1 c2 c3 c4 c5 c6 c7 c8 HU
    by_cases e : cl = q
    ·have e1 : (cl == q) = true := by simp [e]
     have e2 : (cl != q) = false := by simp [e]
     have HT : Hid (inCls x q = true) := by show _ = _; rw [HIC.out, e1]
     have HS2 : Hid (nn + 1 = countIn (s.items.take (k + 1)) q) := by show _ = _; rw [HS.out, HT.out, HN.out]; rfl
     clear e
     by_cases hm0 : mm < 0
     ·have HL : Hid ((k : Int) = lastTo s.items q (k + 1)) := (L2.out HT.out (by rw [← HM.out]; exact hm0)).symm
      go_wp2_with fail
      go_quiet (fail)
      go_wp2_with fail
      go_roundw
      case rel => exact ⟨k + 1, nn + 1, k, by omega, by go_num, rfl, rfl, by omega, by omega, by omega, by omega, HS2, HL, below_drewN hbw _, hx1⟩
      case measure => simp [intOf]; omega
     ·obtain ⟨m, hm⟩ : ∃ m : Nat, mm = m := ⟨mm.toNat, by omega⟩
      subst hm;have hml : m < s.items.length := by omega
      have hu2 := HU1.out m hml;obtain ⟨uy, huy⟩ : ∃ u, u = s.items[m].used := ⟨_, rfl⟩;rw [← huy] at hu2;have HUY := hid huy;have hm1 : (m : Int) < (s.items.length : Int) := by omega
      clear huy
      by_cases hlt2 : ux < uy
      ·have HL : Hid ((k : Int) = lastTo s.items q (k + 1)) := (L3.out m HT.out HM.out.symm hml (by rw [← HUY.out]; exact hlt2)).symm
       go_wp2_with fail
       go_quiet (fail)
       go_wp2_with fail
       go_roundw
       case rel => exact ⟨k + 1, nn + 1, k, by omega, by go_num, rfl, rfl, by omega, by omega, by omega, by omega, HS2, HL, below_drewN hbw _, hx1⟩
       case measure => simp [intOf]; omega
      ·have HL : Hid ((m : Int) = lastTo s.items q (k + 1)) := (L4.out m HT.out HM.out.symm hml (by rw [← HUY.out]; omega)).symm
       go_wp2_with fail
       go_quiet (fail)
       go_wp2_with fail
       go_roundw
       case rel => exact ⟨k + 1, nn + 1, m, by omega, by go_num, rfl, rfl, by omega, by omega, by omega, by omega, HS2, HL, below_drewN hbw _, hx1⟩
       case measure => simp [intOf]; omega
    ·have e1 : (cl == q) = false := by simp [e]
     have e2 : (cl != q) = true := by simp [e]
     have HT : Hid (inCls x q = false) := by show _ = _; rw [HIC.out, e1]
     have HS2 : Hid (nn = countIn (s.items.take (k + 1)) q) := by show _ = _; rw [HS.out, HT.out, HN.out]; simp
     have HL : Hid (mm = lastTo s.items q (k + 1)) := by show _ = _; rw [L1.out HT.out, HM.out]
     clear e
     go_wp2_with fail
     go_roundw
     case rel => exact ⟨k + 1, nn, mm, by omega, by go_num, rfl, rfl, by omega, by omega, by omega, by omega, HS2, HL, hbw, hx1⟩
     case measure => simp [intOf]; omega
   ·
    have HT : Hid (inCls x q = false) := by show _ = _; rw [cls_far HFAR.out.symm]
    have HS2 : Hid (nn = countIn (s.items.take (k + 1)) q) := by show _ = _; rw [HS.out, HT.out, HN.out]; simp
    have HL : Hid (mm = lastTo s.items q (k + 1)) := by show _ = _; rw [L1.out HT.out, HM.out]
    go_wp2_with fail
    go_roundw
    case rel => exact ⟨k + 1, nn, mm, by omega, by go_num, rfl, rfl, by omega, by omega, by omega, by omega, HS2, HL, hb.alloc hb.size _, (World.cell?_alloc_lt _ _ _ hz).trans hx⟩
    case measure => simp [intOf]; omega
  ·have hk2 : k = s.items.length := by omega
   have HE : Hid (countIn s.items q = nn) := by show _ = _; rw [HN.out, hk2, List.take_length]
   have HE2 : Hid (lastTo s.items q s.items.length = mm) := by show _ = _; rw [HM.out, hk2]
   go_wp2_with fail
   go_ret2
   exact ⟨by rw [HE.out, HE2.out]; rfl, hb⟩
end Go.Proofs.YtbeegfkfpkfccaaGreatDoor.D
