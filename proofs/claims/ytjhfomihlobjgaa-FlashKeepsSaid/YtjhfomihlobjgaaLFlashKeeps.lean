/-
  PROVED: 'Rows.FlashKeepsSaid': what is on flash is read there, as long as its page is; nothing else is. No condition.
-/
import Derived.Test.YtjhfomihlobjgaaCFlashed
import Derived.Test.YtjhfomihlobjgaaPLeft
namespace Go.Proofs.Ytjhfomihlobjgaa.flashKeeps
open Go.ChangeShapes Go.WideShapes Go.ChangeAt Go.RowKit Go.Maps Go.Proofs.Ytjhfomihlobjgaa.D
theorem read_is (f : Flash) (x y : Int) (s : Str) (e : Int) (hr : Hid (f.read ⟨x, y⟩ = (s, e))) (l : Nat) (hl : Hid (l = f.pages.length)) (hl2 : l ≤ 20) (va : Option Addr) (vc : Nat) (W : World) (h : RowsAt W va 2 (PageR W) f.pages) :
    Calls Try.prog 28 #[.agg #[.int .i64 f.most, .int .i64 f.next, .slice va l vc], .agg #[.int .i64 x, .int .i64 y]] W fun z W' => z = .returned (.tuple #[.string ⟨s.toArray⟩, .int .i64 e]) ∧ Below W.heap.size W W' := by
  have := flash_Read f ⟨x, y⟩ va vc W h (by rw [← hl.out]; omega)
  rw [← hl.out] at this
  refine this.mono ?_
  rintro z W' ⟨rfl, hb⟩
  rw [hr.out]
  exact ⟨rfl, hb⟩
theorem chk_is (f : Flash) (hok : Hid (f.ok = true)) (l : Nat) (hl : Hid (l = f.pages.length)) (va : Option Addr) (vc : Nat) (W : World) (h : RowsAt W va 2 (PageR W) f.pages) :
    Calls Try.prog 24 #[.agg #[.int .i64 f.most, .int .i64 f.next, .slice va l vc]] W fun z W' => z = .returned (.int .i64 0) ∧ Below W.heap.size W W' := by
  have := check_is f 0 (show f.chk = 0 by unfold Flash.chk; rw [hok.out]; rfl) va vc W h
  rwa [← hl.out] at this
set_option maxRecDepth 100000 in
set_option maxHeartbeats 2000000 in
theorem walk (l : List (Int × Int × Int × Int)) (a : Option Addr) (c : Nat) (mo : Int) (hmo : I64 mo) (w : World) (h : RowsAt w a 4 rawR l) :
    Calls Try.prog 13 #[.slice a l.length c, .int .i64 mo] w fun e w' => e = .returned (.bool true) ∧ Below w.heap.size w w' := by
  have HR := Lib.hid h
  clear h
  obtain ⟨n, hn⟩ : ∃ n, n = l.length := ⟨_, rfl⟩
  have HN := Lib.hid hn
  rw [← hn]
  clear hn
  obtain ⟨k, hk⟩ : ∃ k, pick mo 6 = k := ⟨_, rfl⟩
  have hk2 := pick_lt mo 6 (by decide)
  rw [hk] at hk2
  have HK := Lib.hid hk
  have hk3 : 0 ≤ k ∧ k ≤ 5 := by omega
  clear hk hk2
  go_enter Try.func13, Try.ntmps13
  go_wp2_with fail
  refine (picked_at mo 6 k HK hmo.1 hmo.2 (by decide) (by decide) _).mono ?_
  rintro e w0 ⟨rfl, rfl⟩
  go_wp2_with fail
  refine (flashed_is l n HN a c k hk3 _ (HR.out.keep (Below.keeps (by go_grown)) (fun _ _ h => h))).mono ?_
  rintro e w1 ⟨f, va, vc, M, D, rfl, hok, hmost, hpg, hmp, hmi, hb1⟩
  have HOK := Lib.hid hok
  have HPG := Lib.hid hpg
  have HMI := Lib.hid hmi
  have HMP := Lib.hid hmp
  have HB1 := Lib.hid (Below.trans (show Below w.heap.size w _ by go_grown) (hb1.mono (by go_size)))
  have HMOST := Lib.hid hmost
  clear hok hpg hmi hmp hb1 hmost
  have hzl := HPG.out
  obtain ⟨⟨x1, x2, x3, x4, x5⟩, _⟩ := fok_parts HOK.out
  obtain ⟨ln, hln⟩ : ∃ ln, ln = f.pages.length := ⟨_, rfl⟩
  have HLN := Lib.hid hln
  have hl20 : ln ≤ 20 := by omega
  rw [← hln]
  clear hzl x1 x2 x3 x4 x5 hln
  go_wp2_with fail
  obtain ⟨W2, hW2⟩ : ∃ W2, W2 = w1.alloc (.cells #[.int .i64 f.most, .int .i64 f.next, .slice va ln vc] 28) := ⟨_, rfl⟩
  have hb2 : Below w1.heap.size w1 W2 := by rw [hW2]; exact (Below.refl _ _).alloc (Nat.le_refl _) _
  have hh2 : W2.heap[w1.heap.size]? = some (.cells #[.int .i64 f.most, .int .i64 f.next, .slice va ln vc] 28 (0, 0)) := by rw [hW2]; exact blk_new w1 _
  have hz2 : w1.heap.size < W2.heap.size := by rw [hW2]; simp
  rw [← hW2]
  clear hW2
  have HB2 := Lib.hid (HB1.out.trans (hb2.mono HB1.out.size))
  have HPG2 := Lib.hid (HPG.out.keep (Below.keeps hb2) (PageR.keep (Below.keeps hb2)))
  have HMP2 := Lib.hid (HMP.out.kept (row := none) (w' := W2) ⟨hb2.os, hb2.tape, hb2.output, hb2.size, fun k hk _ => hb2.block k hk⟩ (by simp))
  have HH2 := Lib.hid hh2
  have HST : Hid (Struck D D (visited f 0 0) 0) := by
    obtain ⟨es, he, _, hl⟩ := HMP.out.entries placeLaw
    refine (Struck.start (HMP.out.tidy placeLaw) ⟨es, he, hl⟩).cong (fun q h => h.elim) (fun q _ _ h => ?_)
    rcases h with ⟨i, hi, hlt, _⟩ | ⟨_, _, h2, h3⟩ <;> omega
  obtain ⟨F, hF⟩ : ∃ F, F = w1.heap.size := ⟨_, rfl⟩
  rw [← hF] at hz2 HH2 ⊢
  clear hF hb2 hh2 HPG HMP HB1
  go_loopw [9, 31] (fun nn i wr => ∃ (pi cnt : Nat) (D' : DataW Unit), pi ≤ ln ∧ cnt ≤ 100000 + pi * 257 ∧ nn = .int .i64 cnt ∧ i = .int .i64 pi ∧ Hid (Struck D D' (visited f pi 0) cnt) ∧ Hid (Below W2.heap.size W2 wr)) (fun _ i _ => ln - (intOf i).toNat)
  case atStart => exact ⟨0, 0, D, Nat.zero_le _, by omega, rfl, rfl, HST, Below.refl _ _⟩
  case round =>
    obtain ⟨pi, cnt, D', hpi, hcnt, rfl, rfl, HLF, HBR⟩ := hrel
    by_cases hlt : pi < ln
    rotate_left
    ·
      obtain rfl : pi = ln := by omega
      have HALL : Hid (cnt = Maps.size D) := visited_all HOK.out HMI.out (by have := HLF.out; rwa [HLN.out] at this)
      have HRD := Lib.hid (read_zero HOK.out)
      have f0 : wr.cell? ⟨F, 0, none⟩ = some (.int .i64 f.most) := by rw [cell_of_row wr _ _ _ _ _ ((HBR.out.block F hz2).trans HH2.out)]; rfl
      have f1 : wr.cell? ⟨F, 1, none⟩ = some (.int .i64 f.next) := by rw [cell_of_row wr _ _ _ _ _ ((HBR.out.block F hz2).trans HH2.out)]; rfl
      have f2 : wr.cell? ⟨F, 2, none⟩ = some (.slice va pi vc) := by rw [cell_of_row wr _ _ _ _ _ ((HBR.out.block F hz2).trans HH2.out)]; rfl
      have hle : (pi : Int) ≤ k := by
        obtain ⟨⟨_, _, x3, _, _⟩, _⟩ := fok_parts HOK.out
        rw [← HLN.out, HMOST.out] at x3
        exact x3
      go_wp2_with fail
      refine (read_is f 0 0 [] 6 HRD pi HLN hl20 va vc _ (HPG2.out.keep (Below.keeps HBR.out) (PageR.keep (Below.keeps HBR.out)))).mono ?_
      rintro z w5 ⟨rfl, hb5⟩
      have HB5 := Lib.hid (HBR.out.trans (hb5.mono HBR.out.size))
      have g0 : w5.cell? ⟨F, 0, none⟩ = some (.int .i64 f.most) := by rw [cell_of_row w5 _ _ _ _ _ ((HB5.out.block F hz2).trans HH2.out)]; rfl
      have g1 : w5.cell? ⟨F, 1, none⟩ = some (.int .i64 f.next) := by rw [cell_of_row w5 _ _ _ _ _ ((HB5.out.block F hz2).trans HH2.out)]; rfl
      have g2 : w5.cell? ⟨F, 2, none⟩ = some (.slice va pi vc) := by rw [cell_of_row w5 _ _ _ _ _ ((HB5.out.block F hz2).trans HH2.out)]; rfl
      clear hb5 f0 f1 f2
      go_wp2_with fail
      refine (chk_is f HOK pi HLN va vc _ (HPG2.out.keep (Below.keeps HB5.out) (PageR.keep (Below.keeps HB5.out)))).mono ?_
      rintro z w6 ⟨rfl, hb6⟩
      have HB6 := Lib.hid (HB5.out.trans (hb6.mono HB5.out.size))
      have e0 : w6.cell? ⟨F, 0, none⟩ = some (.int .i64 f.most) := by rw [cell_of_row w6 _ _ _ _ _ ((HB6.out.block F hz2).trans HH2.out)]; rfl
      have e1 : w6.cell? ⟨F, 1, none⟩ = some (.int .i64 f.next) := by rw [cell_of_row w6 _ _ _ _ _ ((HB6.out.block F hz2).trans HH2.out)]; rfl
      have e2 : w6.cell? ⟨F, 2, none⟩ = some (.slice va pi vc) := by rw [cell_of_row w6 _ _ _ _ _ ((HB6.out.block F hz2).trans HH2.out)]; rfl
      have hown6 := HMP2.out.kept (row := none) (w' := w6) ⟨HB6.out.os, HB6.out.tape, HB6.out.output, HB6.out.size, fun k hk _ => HB6.out.block k hk⟩ (by simp)
      clear hb6 g0 g1 g2
      obtain ⟨sz, hsz⟩ : ∃ sz, sz = Maps.size D := ⟨_, rfl⟩
      have hcs : ((cnt : Int) == (sz : Int)) = true := by rw [hsz, HALL.out]; simp
      have hlen : ∀ ty, (Builtin.len_ #[64] ty #[.map (some M)]).run Try.prog w6 = .ok (.int .i64 sz) w6 := fun ty => by
        rw [hsz]; exact hown6.len (t := 64) (e := 9) Try.underlying64 ty
      clear hsz hown6
      go_wp2_with fail
      go_ret
      exact ⟨rfl, HB2.out.trans (HB6.out.mono HB2.out.size)⟩
    ·
      have hlt2 : pi < f.pages.length := by rw [← HLN.out]; exact hlt
      obtain ⟨b, o, rfl, hc⟩ := HPG2.out.pos (by omega)
      obtain ⟨cs, _, ⟨hI, ba, bc, hcs, _⟩, h3⟩ := hc pi hlt2
      obtain ⟨num, hnum⟩ : ∃ n, n = f.pages[pi].number := ⟨_, rfl⟩
      obtain ⟨bl2, hbl2⟩ : ∃ n, n = f.pages[pi].bytes.length := ⟨_, rfl⟩
      rw [← hnum] at hcs hI
      rw [← hbl2] at hcs
      subst hcs
      have HNUM := Lib.hid hnum
      have hkp := Below.keeps HBR.out
      have c0 := hkp _ _ (h3 0 _ rfl)
      have c1 := hkp _ _ (h3 1 _ rfl)
      rw [Nat.add_zero] at c0
      clear h3 hc hkp hbl2 hnum
      go_wp2_with fail
      obtain ⟨wo, rfl⟩ : ∃ wo : World, wo = wr := ⟨_, rfl⟩
      obtain ⟨W3, hW3⟩ : ∃ W3, W3 = wo.alloc (.cells #[.int .i64 num, .slice ba bl2 bc] 69) := ⟨_, rfl⟩
      have hb3 : Below wo.heap.size wo W3 := by rw [hW3]; exact (Below.refl _ _).alloc (Nat.le_refl _) _
      have HH3 : Hid (W3.heap[wo.heap.size]? = some (.cells #[.int .i64 num, .slice ba bl2 bc] 69 (0, 0))) := by show _ = _; rw [hW3]; exact blk_new wo _
      have hz3 : wo.heap.size < W3.heap.size := by rw [hW3]; simp
      rw [← hW3]
      clear hW3 c0 c1
      have hzr : W2.heap.size ≤ wo.heap.size := HBR.out.size
      have HB3 := Lib.hid (HBR.out.trans (hb3.mono HBR.out.size))
      clear hb3
      go_loopw [9, 35] (fun nn i wr => ∃ (a cnt' : Nat) (D'' : DataW Unit), a ≤ 257 ∧ cnt' ≤ 100000 + pi * 257 + a ∧ nn = .int .i64 cnt' ∧ i = .int .i64 a ∧ Hid (Struck D D'' (visited f pi a) cnt') ∧ Hid (Below W3.heap.size W3 wr)) (fun _ i _ => 257 - (intOf i).toNat)
      case atStart => exact ⟨0, cnt, D', by omega, by omega, rfl, rfl, HLF, Below.refl _ _⟩
      case round =>
        obtain ⟨at', cnt', D'', hat, hcnt', rfl, rfl, HLI, HBI⟩ := hrel
        by_cases h257 : at' < 257
        rotate_left
        ·
          obtain rfl : at' = 257 := by omega
          obtain ⟨v1, v2⟩ := visited_page HOK.out HMI.out hlt2
          have HNEW := Lib.hid (HLI.out.cong v1 v2)
          have HBN := Lib.hid (HB3.out.trans (HBI.out.mono HB3.out.size))
          clear v1 v2
          go_wp2_with fail
          go_roundw
          case rel => exact ⟨pi + 1, cnt', D'', by omega, by omega, rfl, by go_num, HNEW, HBN⟩
          case measure => simp [intOf]; omega
        ·
          have h258 : (at' : Int) < 257 := by omega
          have p0 : wr.cell? ⟨wo.heap.size, 0, none⟩ = some (.int .i64 num) := by rw [cell_of_row wr _ _ _ _ _ ((HBI.out.block wo.heap.size hz3).trans HH3.out)]; rfl
          have HBW := Lib.hid (HB3.out.trans (HBI.out.mono HB3.out.size))
          have f0 : wr.cell? ⟨F, 0, none⟩ = some (.int .i64 f.most) := by rw [cell_of_row wr _ _ _ _ _ ((HBW.out.block F hz2).trans HH2.out)]; rfl
          have f1 : wr.cell? ⟨F, 1, none⟩ = some (.int .i64 f.next) := by rw [cell_of_row wr _ _ _ _ _ ((HBW.out.block F hz2).trans HH2.out)]; rfl
          have f2 : wr.cell? ⟨F, 2, none⟩ = some (.slice (some ⟨b, o, none⟩) ln vc) := by rw [cell_of_row wr _ _ _ _ _ ((HBW.out.block F hz2).trans HH2.out)]; rfl
          have hrd := read_rd HOK.out (q := ⟨num, at'⟩) hlt2 HNUM.out.symm
          have i1 : I64 num := hI
          have i2 : I64 (at' : Int) := ⟨by omega, by omega⟩
          have hhas := HMI.out.has ⟨num, at'⟩ i1 i2
          have hnv : ¬ visited f pi at' ⟨num, at'⟩ := by rw [HNUM.out]; exact visited_no HOK.out hlt2
          have hst : ∀ q, visited f pi (at' + 1) q ↔ visited f pi at' q ∨ q = ⟨num, at'⟩ := by rw [HNUM.out]; exact visited_step hlt2
          obtain ⟨r, hr⟩ : ∃ r, r = f.rd ⟨num, at'⟩ := ⟨_, rfl⟩
          rw [← hr] at hrd hhas
          have HR1 := Lib.hid (show optS r = optS (f.rd ⟨num, at'⟩) by rw [hr])
          have HR2 := Lib.hid (show r.isSome = (f.rd ⟨num, at'⟩).isSome by rw [hr])
          have HNV := Lib.hid hnv
          have HST' := Lib.hid hst
          clear hr hnv hst
          cases r with
          | none =>
            have HRD := Lib.hid hrd
            have HHAS := Lib.hid hhas
            simp only [optS, Option.isSome_none] at HR1 HR2
            clear hrd hhas
            have HS1 := Lib.hid (show (⟨#[]⟩ : ByteArray) = optS (f.rd ⟨num, at'⟩) from HR1.out)
            have HS2 := Lib.hid (show false = (f.rd ⟨num, at'⟩).isSome from HR2.out)
            have HNEW := Lib.hid ((HLI.out.miss ⟨num, at'⟩ HHAS.out).cong (V' := visited f pi (at' + 1)) (fun q hq => (HST'.out q).2 hq) (fun q _ _ hq => .inl ((HST'.out q).1 hq)))
            clear HR1 HR2
            go_wp2_with fail
            refine (read_is f num at' [] 2 HRD ln HLN hl20 _ vc _ (HPG2.out.keep (Below.keeps HBW.out) (PageR.keep (Below.keeps HBW.out)))).mono ?_
            rintro z w5 ⟨rfl, hb5⟩
            have HB5 := Lib.hid (HBW.out.trans (hb5.mono HBW.out.size))
            have HBI5 := Lib.hid (HBI.out.trans (hb5.mono HBI.out.size))
            have p0' : w5.cell? ⟨wo.heap.size, 0, none⟩ = some (.int .i64 num) := by rw [cell_of_row w5 _ _ _ _ _ ((HBI5.out.block wo.heap.size hz3).trans HH3.out)]; rfl
            have hown5 := HMP2.out.kept (row := none) (w' := w5) ⟨HB5.out.os, HB5.out.tape, HB5.out.output, HB5.out.size, fun k hk _ => HB5.out.block k hk⟩ (by simp)
            clear hb5 p0 f0 f1 f2
            go_wp2_with (first
              | (at_lookup; refine list_look _ rfl _ _ rfl M 40 D f.rd rfl hown5 ⟨num, at'⟩ i1 i2 rfl HMI.out ⟨#[]⟩ false HS1.out HS2.out ?_))
            go_roundw
            case rel => exact ⟨at' + 1, cnt', D'', by omega, by omega, rfl, by go_num, HNEW, HBI5⟩
            case measure => simp [intOf]; omega
          | some s =>
            have HRD := Lib.hid hrd
            have HHAS := Lib.hid hhas
            simp only [optS, Option.isSome_some] at HR1 HR2
            clear hrd hhas
            have HS1 := Lib.hid (show (⟨s.toArray⟩ : ByteArray) = optS (f.rd ⟨num, at'⟩) from HR1.out)
            have HS2 := Lib.hid (show true = (f.rd ⟨num, at'⟩).isSome from HR2.out)
            have HNEW := Lib.hid ((HLI.out.hit ⟨num, at'⟩ i1 i2 HNV.out HHAS.out).cong (V' := visited f pi (at' + 1)) (fun q hq => (HST'.out q).2 hq) (fun q _ _ hq => .inl ((HST'.out q).1 hq)))
            clear HR1 HR2
            obtain ⟨sv, hsv⟩ : ∃ sv : ByteArray, sv = ⟨s.toArray⟩ := ⟨_, rfl⟩
            rw [← hsv] at HS1
            have HRD2 := Lib.hid (fun (W : World) h => read_is f num at' s 0 HRD ln HLN hl20 (some ⟨b, o, none⟩) vc W h)
            rw [← hsv] at HRD2
            clear hsv
            go_wp2_with fail
            refine (HRD2.out _ (HPG2.out.keep (Below.keeps HBW.out) (PageR.keep (Below.keeps HBW.out)))).mono ?_
            rintro z w5 ⟨rfl, hb5⟩
            have HB5 := Lib.hid (HBW.out.trans (hb5.mono HBW.out.size))
            have HBI5 := Lib.hid (HBI.out.trans (hb5.mono HBI.out.size))
            have p0' : w5.cell? ⟨wo.heap.size, 0, none⟩ = some (.int .i64 num) := by rw [cell_of_row w5 _ _ _ _ _ ((HBI5.out.block wo.heap.size hz3).trans HH3.out)]; rfl
            have hown5 := HMP2.out.kept (row := none) (w' := w5) ⟨HB5.out.os, HB5.out.tape, HB5.out.output, HB5.out.size, fun k hk _ => HB5.out.block k hk⟩ (by simp)
            clear hb5 p0 f0 f1 f2
            go_wp2_with (first
              | (at_lookup; refine list_look _ rfl _ _ rfl M 40 D f.rd rfl hown5 ⟨num, at'⟩ i1 i2 rfl HMI.out sv true HS1.out HS2.out ?_))
            go_roundw
            case rel => exact ⟨at' + 1, cnt' + 1, _, by omega, by omega, by go_num, by go_num, HNEW, HBI5⟩
            case measure => simp [intOf]; omega
section
variable {H : Type} {enc : TypeId × Value → H} {w : World}
theorem bytes_raw : Try.prog.bytesOf 94 = 32 := by kernel_rfl
instance : Inhabited (Int × Int × Int × Int) := ⟨(0, 0, 0, 0)⟩
theorem read_raw {f : Nat} {cs : List Value} {y : DataW H × List MemPlace} (h : DataW.trod enc Try.prog w 0 (fun _ => true) true f 94 cs = some y) : ∃ r, rawR cs r := by
  obtain ⟨xs, n, _, _, hl, hx, hf⟩ := DataW.trod_struct Try.underlying94 h
  obtain ⟨c0, c1, c2, c3, rfl⟩ := four (hl.trans (by kernel_rfl))
  obtain ⟨y0, y1, y2, y3, rfl⟩ := four hx
  have h0 := hf 0 _ rfl
  have h1 := hf 1 _ rfl
  have h2 := hf 2 _ rfl
  have h3 := hf 3 _ rfl
  simp [cells_int] at h0 h1 h2 h3
  obtain ⟨n0, e0, b0⟩ := read_i64 Try.underlying3 h0
  obtain ⟨n1, e1, b1⟩ := read_i64 Try.underlying3 h1
  obtain ⟨n2, e2, b2⟩ := read_i64 Try.underlying3 h2
  obtain ⟨n3, e3, b3⟩ := read_i64 Try.underlying3 h3
  cases e0; cases e1; cases e2; cases e3
  exact ⟨(n0, n1, n2, n3), rfl, b0, b1, b2, b3⟩
end
set_option maxRecDepth 100000 in
theorem enters {H : Type} {enc : TypeId × Value → H} {W : World} {base : Nat} {args : Array Value} {ds : List (DataW H)} {p : List MemPlace}
    (hval : ∀ (j : Nat) t v, Try.f13.params[j]? = some t → args[j]? = some v → Value.okWide Try.prog W .any base t v)
    (hA : DataW.TrodAll enc Try.prog W 0 (fun _ => true) true Try.f13.params.toList args.toList ds p) (hsz : ∀ m ∈ DataW.weightsEach Try.prog Try.f13.params.toList ds, m ≤ reachBytes) :
    Calls Try.prog 13 args W fun e W' => e = .returned (.bool true) ∧ Below W.heap.size W W' := by
  rw [Try.params13] at hA hval hsz
  obtain ⟨v0, vs0, d0, ds0, p0, q0, hargs, rfl, rfl, h0, r0⟩ := trodAll_cons hA
  obtain ⟨v1, vs1, d1, ds1, p1, q1, hargs1, rfl, rfl, h1, r1⟩ := trodAll_cons r0
  obtain ⟨rfl, rfl, rfl⟩ := trodAll_nil r1
  obtain rfl : args = #[v0, v1] := by cases args; simp_all
  obtain ⟨a0, n0, c0, rfl⟩ := okWide_slice Try.underlying62 (hval 0 62 v0 rfl rfl)
  obtain ⟨fuel, hf⟩ := h0
  obtain ⟨fuel1, hf1⟩ := h1
  obtain ⟨a, len, c, l, he, hll, hlc, hcm, hrow⟩ := read_slice (v := .slice a0 n0 c0) (n := 4) rawR Try.underlying62 (by kernel_rfl) (by omega) (fun f cs y hy _ => read_raw hy) hf (Wt.all hsz 0 rfl rfl)
  cases he
  subst hll
  obtain ⟨m0, rfl⟩ := okWide_int Try.underlying3 (hval 1 3 v1 rfl rfl)
  obtain ⟨m, hm, hmb⟩ := read_i64 Try.underlying3 hf1
  cases hm
  exact walk l a0 c0 m0 hmb W hrow

set_option maxRecDepth 100000 in
theorem lifted (os : Os) (started : os.Started) (H : Type) (enc : TypeId × Value → H) :
    ReturnsInHanded {} Try.checked os 13 .any (Rows.flashKeepsSpec.pre6 enc Try.prog Try.f13 Rows.flashKeepsRow.domain false) (Rows.flashKeepsSpec.post enc Try.prog Try.f13 false true false false) := by
  refine returnsInHanded_of_change_sized (C := Try.checked) D.own started (by kernel_rfl) Try.func13
    (ChangeSpec.witness6 (enc := enc) (C := Try.checked) false ⟨#[], #[.slice none 0 0, .int .i64 0], []⟩ 12 (by kernel_rfl) (by kernel_rfl) (by kernel_rfl) (by kernel_rfl)) ?_
  intro W base args ds gs before hval0 hW hcnd hsz0 _
  have hval : ∀ (j : Nat) t v, Try.f13.params[j]? = some t → args[j]? = some v → Value.okWide Try.prog W .any base t v := hval0
  have hW' := hW
  obtain ⟨p, q, hA0, hV, rfl, hfz, hnd⟩ := hW
  have hA : DataW.TrodAll enc Try.prog W 0 (fun _ => true) true Try.f13.params.toList args.toList ds p := hA0
  obtain ⟨rfl, rfl⟩ := trodVars_none hV
  have hsz : ∀ m ∈ DataW.weightsEach Try.prog Try.f13.params.toList ds, m ≤ reachBytes := by
    have h0 : (DataW.weightsEach Try.prog (Try.f13.params.toList ++ []) (ds ++ [])).all (· ≤ reachBytes) = true := hsz0
    rw [List.append_nil, List.append_nil] at h0
    intro m hm
    simpa using List.all_eq_true.1 h0 m hm
  have hds : Rows.flashKeepsSpec.fn H (ds ++ []) = { results := [.lit (.bool true)], args := ds } := by
    have hA1 := hA
    rw [Try.params13] at hA1
    obtain ⟨v0, vs0, d0, ds0, p0, q0, _, rfl, rfl, h0, r0⟩ := trodAll_cons hA1
    obtain ⟨v1, vs1, d1, ds1, p1, q1, _, rfl, rfl, h1, r1⟩ := trodAll_cons r0
    obtain ⟨_, rfl, rfl⟩ := trodAll_nil r1
    rfl
  refine (enters hval hA hsz).mono fun e W' ⟨he, hb⟩ => ⟨_, he, D.law_post rfl rfl hds (by kernel_rfl) hW' hb⟩
theorem proved : Rows.FlashKeepsSaid :=
  OpenClaim.holds_of_wide 13 Try.f13 rfl rfl rfl rfl rfl rfl rfl ⟨rfl, rfl, rfl, rfl, rfl⟩ rfl rfl rfl rfl rfl (by kernel_rfl) Try.func13 (by kernel_rfl)
    (of_decide_eq_true (by kernel_rfl)) (by unfold Func.isWrapper; first | (rw [if_pos (by decide +kernel)]; kernel_rfl) | (rw [if_neg (by decide +kernel)]; exact ⟨rfl, rfl⟩))
    (fun os started H enc _ => lifted os started H enc)
end Go.Proofs.Ytjhfomihlobjgaa.flashKeeps
